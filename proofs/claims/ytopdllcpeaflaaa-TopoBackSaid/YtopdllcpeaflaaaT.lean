/- Rows linked and unlinked. -/
import Derived.Test.YtopdllcpeaflaaaS
namespace Go.Proofs.Ytopdllcpeaflaaa
open Go.RowKit Go.Dl
attribute [local irreducible] Tri SCall DFun QSem PCall GCall MCall Round Weak dloadE OW DWl Tells IntKind.wrap Retold ESem

def linkT (id : Int) (l : List Int) (v : Int) : List Int × Int :=
  if nodeB v = false then (l, 40) else if v = id then (l, 41) else if v ∈ l then (l, 42) else if 6 ≤ l.length then (l, 43) else (l ++ [v], 0)
def unlinkT (l : List Int) (turn : Int) (v : Int) : List Int × Int × Int :=
  if v ∈ l then
    let t := if ((l.idxOf v : Nat) : Int) < turn then turn - 1 else turn
    (l.eraseIdx (l.idxOf v), if ((l.length - 1 : Nat) : Int) ≤ t then 0 else t, 0)
  else (l, turn, 44)

theorem rowC_push (l : List Int) (v : Int) : (rowC l).take (l.length * 1) ++ [.v (.int .i64 v)] = ((l ++ [v]).map intD).flatten := by
  rw [List.take_of_length_le (by rw [rowC_len]; omega)]
  exact (rowC_app l [v]).symm
theorem rowC_push' (l : List Int) (v : Int) : ((l.map intD).flatten).take ((l.map intD).length * 1) ++ [.v (.int .i64 v)] = ((l ++ [v]).map intD).flatten := by
  rw [List.length_map]; exact rowC_push l v

def sameSt33 (a b : List Int) (k : Nat) : St := ⟨0, tmOf [(0, ints a), (1, ints b), (12, int1 (a.map intD).length), (13, int1 k)], .of [] 0⟩
theorem same_I (a b : List Int) : DPure Try.prog 33 [ints a, ints b] (.v (.bool (decide (a = b)))) := by
  refine DFun.bound 0 rfl fun ha => ?_
  have ha : a.length ≤ 9223372036854775807 := by simpa [maxLen] using ha
  refine DFun.body Try.func33 rfl (by kernel_rfl) ?_
  repeat' (first | refine And.intro ?_ ?_ | (intro h; first | exact Bool.noConfusion h | skip) | refine dcell_ok rfl ?_ | refine dvb ?_ | refine Tri.loop (sameSt33 a b) (fun k => k ≤ a.length ∧ a.take k = b.take k) (fun k => a.length - k) 0 (by kernel_rfl) (Weak.list [] [] ?_ ?_ ?_) ?_ ?_ | refine dloadE_map 0 ?_ ?_ | refine Round.go (· + 1) ?_ ?_ (Weak.list [] [] ?_ ?_ ?_))
  all_goals first | rfl | trivial | assumption | exact DW.same _ rfl | refine DW.int ?_ | skip
  all_goals try (simp [intD] at *; done)
  all_goals try (simp [intD] at *; omega)
  · simp at *
    intro e; subst e; contradiction
  · simp at *
    intro e; subst e; contradiction
  · rename_i e0 k hk e1
    simp at e0 e1 h
    exact take_succ_eq (d := 0) (by omega) hk.2 (by omega) (by simpa using h)
  · rename_i e0 k hk e1
    simp at e0 e1 h
    have := wrap64 (k := k + 1) (by omega)
    simpa using this
  · rename_i e0 k hk
    simp at e0 h
    have : k = a.length := by omega
    subst this
    have h4 := hk.2
    simp at h4
    have e1 : b.length = a.length := by omega
    rw [← e1, List.take_length] at h4
    simp [h4]

theorem copied30_D (l : List Int) (hl : l.length ≤ 1000000) : DPure Try.prog 30 [ints l] (ints l) := by
  refine DFun.data (DFun.body Try.func30 rfl (by kernel_rfl) ?_)
  repeat' (first | with_reducible rfl | ((conv => whnf); first | refine And.intro ?_ ?_ | (intro h; first | exact Bool.noConfusion h | with_reducible exact h | (have ht : true = true := h; clear ht h) | skip) | ((with_reducible refine DWl.mark ?_); repeat' (first | refine DWl.cons ?_ ?_ | exact DWl.nil | exact DW.same _ rfl | exact DW.ref _ _ _ rfl | exact DW.arr _ _ _ rfl | exact DW.sub _ _ _ _ rfl | exact DW.nilLst _ | refine DW.aggl ?_ | refine DW.tupl ?_ | refine DW.clol ?_ ?_ | refine DW.int ?_ | refine DW.bool ?_ | refine DW.str ?_)) | refine dcell_ok rfl ?_ | refine AppC.new ?_))
  all_goals first | (with_reducible refine enters_mark ?_; kernel_rfl) | (with_reducible refine boolT_mark ?_; kernel_rfl) | rfl | trivial | assumption | exact Nat.le_of_ble_eq_true rfl | (show entersB _ _ = true; kernel_rfl) | exact DW.same _ rfl | exact DW.ref _ _ _ rfl | exact DW.arr _ _ _ rfl | refine DW.int ?_ | refine dvb ?_ | refine dvi ?_ | exact OW.cells rfl rfl (DWl.same rfl) | exact Nat.zero_le _ | omega | skip
  all_goals repeat' (first | refine OW.cells rfl rfl ?_ | exact DW.nilArr _ rfl | refine DWl.cons ?_ ?_ | exact DWl.nil | exact DW.same _ rfl | exact DW.ref _ _ _ rfl | exact DW.arr _ _ _ rfl | exact DW.sub _ _ _ _ rfl | exact DW.nilLst _ | refine DW.aggl ?_ | refine DW.tupl ?_ | refine DW.clol ?_ ?_)
  all_goals try ((conv => whnf); with_reducible first | refine Round.mark ?_ | refine Tells.mark ?_ | refine Retold.mark ?_)
  all_goals try first | (show (_ : Bool) = _; simp_all; done) | (show (_ : Int) < _; simp at *; omega) | (show (_ : Int) ≤ _; simp at *; omega) | (show (_ : Nat) < _; simp at *; omega) | (show (_ : Nat) ≤ _; simp at *; omega)
  · show (l.map intD).length * 8 ≤ 140737488355328
    simp; omega
  · simp [maxLen]; omega
  · exact Tells.mk (DW.pubM rfl (List.length_map _).symm rfl rfl (intsRow l) rfl)
theorem copied58_D (l : List Int) (hl : l.length ≤ 1000000) : DPure Try.prog 58 [ints l] (ints l) := by
  refine DFun.data (DFun.body Try.func58 rfl (by kernel_rfl) ?_)
  repeat' (first | with_reducible rfl | ((conv => whnf); first | refine And.intro ?_ ?_ | (intro h; first | exact Bool.noConfusion h | with_reducible exact h | (have ht : true = true := h; clear ht h) | skip) | ((with_reducible refine DWl.mark ?_); repeat' (first | refine DWl.cons ?_ ?_ | exact DWl.nil | exact DW.same _ rfl | exact DW.ref _ _ _ rfl | exact DW.arr _ _ _ rfl | exact DW.sub _ _ _ _ rfl | exact DW.nilLst _ | refine DW.aggl ?_ | refine DW.tupl ?_ | refine DW.clol ?_ ?_ | refine DW.int ?_ | refine DW.bool ?_ | refine DW.str ?_)) | refine dcell_ok rfl ?_ | refine AppC.new ?_))
  all_goals first | (with_reducible refine enters_mark ?_; kernel_rfl) | (with_reducible refine boolT_mark ?_; kernel_rfl) | rfl | trivial | assumption | exact Nat.le_of_ble_eq_true rfl | (show entersB _ _ = true; kernel_rfl) | exact DW.same _ rfl | exact DW.ref _ _ _ rfl | exact DW.arr _ _ _ rfl | refine DW.int ?_ | refine dvb ?_ | refine dvi ?_ | exact OW.cells rfl rfl (DWl.same rfl) | exact Nat.zero_le _ | omega | skip
  all_goals repeat' (first | refine OW.cells rfl rfl ?_ | exact DW.nilArr _ rfl | refine DWl.cons ?_ ?_ | exact DWl.nil | exact DW.same _ rfl | exact DW.ref _ _ _ rfl | exact DW.arr _ _ _ rfl | exact DW.sub _ _ _ _ rfl | exact DW.nilLst _ | refine DW.aggl ?_ | refine DW.tupl ?_ | refine DW.clol ?_ ?_)
  all_goals try ((conv => whnf); with_reducible first | refine Round.mark ?_ | refine Tells.mark ?_ | refine Retold.mark ?_)
  all_goals try first | (show (_ : Bool) = _; simp_all; done) | (show (_ : Int) < _; simp at *; omega) | (show (_ : Int) ≤ _; simp at *; omega) | (show (_ : Nat) < _; simp at *; omega) | (show (_ : Nat) ≤ _; simp at *; omega)
  · show (l.map intD).length * 8 ≤ 140737488355328
    simp; omega
  · simp [maxLen]; omega
  · exact Tells.mk (DW.pubM rfl (List.length_map _).symm rfl rfl (intsRow l) rfl)
theorem link31_D (id : Int) (l : List Int) (v : Int) (hl : l.length ≤ 1000000) : DPure Try.prog 31 [int1 id, ints l, int1 v] (.tup [ints (linkT id l v).1, int1 (linkT id l v).2]) := by
  refine DFun.data (DFun.body Try.func31 rfl (by kernel_rfl) ?_)
  repeat' (first | with_reducible rfl | ((conv => whnf); first | refine And.intro ?_ ?_ | (intro h; first | exact Bool.noConfusion h | with_reducible exact h | (have ht : true = true := h; clear ht h) | skip) | ((with_reducible refine DWl.mark ?_); repeat' (first | refine DWl.cons ?_ ?_ | exact DWl.nil | exact DW.same _ rfl | exact DW.ref _ _ _ rfl | exact DW.arr _ _ _ rfl | exact DW.sub _ _ _ _ rfl | exact DW.nilLst _ | refine DW.aggl ?_ | refine DW.tupl ?_ | refine DW.clol ?_ ?_ | refine DW.int ?_ | refine DW.bool ?_ | refine DW.str ?_)) | ((with_reducible refine SCall.mark ?_); first | refine SCall.at [] (fun m => [(m, ⟨3, 1, rowC l⟩)]) (fun m => .arr m l.length) 1 (clone57_O l hl) (by kernel_rfl) ?_ ?_ ?_ ?_ ?_ | refine SCall.data (node53_D v) rfl rfl ?_ | refine SCall.data (has_D l v) rfl rfl ?_) | ((with_reducible refine GCall.mark ?_); first | refine GCall.data (fun _ => node53_D v) rfl rfl ?_ | refine GCall.data (fun _ => has_D l v) rfl rfl ?_) | ((with_reducible refine MCall.mark ?_); first | refine MCall.data (fun _ => node53_D v) rfl rfl ?_ | refine MCall.data (fun _ => has_D l v) rfl rfl ?_) | refine dcell_ok rfl ?_ | refine AppC.new ?_))
  all_goals first | (with_reducible refine enters_mark ?_; kernel_rfl) | (with_reducible refine boolT_mark ?_; kernel_rfl) | rfl | trivial | assumption | exact Nat.le_of_ble_eq_true rfl | (show entersB _ _ = true; kernel_rfl) | exact DW.same _ rfl | exact DW.ref _ _ _ rfl | exact DW.arr _ _ _ rfl | refine DW.int ?_ | refine dvb ?_ | refine dvi ?_ | exact OW.cells rfl rfl (DWl.same rfl) | exact Nat.zero_le _ | omega | skip
  all_goals repeat' (first | refine OW.cells rfl rfl ?_ | exact DW.nilArr _ rfl | refine DWl.cons ?_ ?_ | exact DWl.nil | exact DW.same _ rfl | exact DW.ref _ _ _ rfl | exact DW.arr _ _ _ rfl | exact DW.sub _ _ _ _ rfl | exact DW.nilLst _ | refine DW.aggl ?_ | refine DW.tupl ?_ | refine DW.clol ?_ ?_)
  all_goals try ((conv => whnf); with_reducible first | refine Round.mark ?_ | refine Tells.mark ?_ | refine Retold.mark ?_)
  all_goals try first | (show (_ : Bool) = _; simp_all; done) | (show (_ : Int) < _; simp at *; omega) | (show (_ : Int) ≤ _; simp at *; omega) | (show (_ : Nat) < _; simp at *; omega) | (show (_ : Nat) ≤ _; simp at *; omega)
  · exact DWl.same (rowC_all _)
  · simp at h
    refine Tells.of (r1 := .tup [ints l, int1 40]) (by simp [linkT, h]) (Tells.mk ?_)
    repeat' (first | exact DW.pubM rfl rfl rfl rfl (intsRow _) rfl | exact DW.pubM rfl (List.length_map _).symm rfl rfl (intsRow _) rfl | exact DW.same _ rfl | refine DW.tupl ?_ | refine DWl.cons ?_ ?_ | exact DWl.nil)
  · rename_i e1
    simp at h e1
    refine Tells.of (r1 := .tup [ints l, int1 41]) (by subst h; simp [linkT, e1]) (Tells.mk ?_)
    repeat' (first | exact DW.pubM rfl rfl rfl rfl (intsRow _) rfl | exact DW.pubM rfl (List.length_map _).symm rfl rfl (intsRow _) rfl | exact DW.same _ rfl | refine DW.tupl ?_ | refine DWl.cons ?_ ?_ | exact DWl.nil)
  · rename_i e1 e2
    simp [hasB] at h e1 e2
    refine Tells.of (r1 := .tup [ints l, int1 42]) (by simp [linkT, e1, e2, h]) (Tells.mk ?_)
    repeat' (first | exact DW.pubM rfl rfl rfl rfl (intsRow _) rfl | exact DW.pubM rfl (List.length_map _).symm rfl rfl (intsRow _) rfl | exact DW.same _ rfl | refine DW.tupl ?_ | refine DWl.cons ?_ ?_ | exact DWl.nil)
  · rename_i e1 e2 e3
    simp [hasB] at h e1 e2 e3
    refine Tells.of (r1 := .tup [ints l, int1 43]) (by unfold linkT; rw [if_neg (by simp [e1]), if_neg e2, if_neg e3, if_pos (by omega)]) (Tells.mk ?_)
    repeat' (first | exact DW.pubM rfl rfl rfl rfl (intsRow _) rfl | exact DW.pubM rfl (List.length_map _).symm rfl rfl (intsRow _) rfl | exact DW.same _ rfl | refine DW.tupl ?_ | refine DWl.cons ?_ ?_ | exact DWl.nil)
  · show l.length * 1 ≤ (rowC l).length
    rw [rowC_len]; omega
  · simp [maxLen]; omega
  · rename_i e1 e2 e3
    simp [hasB] at h e1 e2 e3
    refine Tells.of (r1 := .tup [ints (l ++ [v]), int1 0]) (by unfold linkT; rw [if_neg (by simp [e1]), if_neg e2, if_neg e3, if_neg (by omega)]) (Tells.mk ?_)
    repeat' (first | exact DW.pubM rfl (by simp) rfl rfl (intsRow _) (rowC_push l v) | exact DW.same _ rfl | refine DW.tupl ?_ | refine DWl.cons ?_ ?_ | exact DWl.nil)
theorem link32_D (id : Int) (l : List Int) (v : Int) (hl : l.length ≤ 1000000) : DPure Try.prog 32 [int1 id, ints l, int1 v] (.tup [ints (linkT id l v).1, int1 (linkT id l v).2]) := by
  refine DFun.data (DFun.body Try.func32 rfl (by kernel_rfl) ?_)
  repeat' (first | with_reducible rfl | ((conv => whnf); first | refine And.intro ?_ ?_ | (intro h; first | exact Bool.noConfusion h | with_reducible exact h | (have ht : true = true := h; clear ht h) | skip) | ((with_reducible refine DWl.mark ?_); repeat' (first | refine DWl.cons ?_ ?_ | exact DWl.nil | exact DW.same _ rfl | exact DW.ref _ _ _ rfl | exact DW.arr _ _ _ rfl | exact DW.sub _ _ _ _ rfl | exact DW.nilLst _ | refine DW.aggl ?_ | refine DW.tupl ?_ | refine DW.clol ?_ ?_ | exact DW.pubM rfl rfl rfl rfl (intsRow _) rfl | exact DW.pubG rfl rfl rfl rfl rfl (intsRow _) rfl | exact DW.pubM rfl (List.length_map _).symm rfl rfl (intsRow _) rfl | exact DW.pubG rfl (List.length_map _).symm rfl rfl rfl (intsRow _) rfl | refine DW.int ?_ | refine DW.bool ?_ | refine DW.str ?_)) | ((with_reducible refine SCall.mark ?_); first | refine SCall.run Try.func58 rfl (Nat.le_of_ble_eq_true rfl) (by kernel_rfl) ?_ | refine SCall.data (node55_D v) rfl rfl ?_ | refine SCall.scalT (rhas_D l v) ?_ rfl ?_) | ((with_reducible refine PCall.mark ?_); first | refine PCall.tell (fun _ => rhas_D l v) ?_ rfl ?_) | ((with_reducible refine GCall.mark ?_); first | refine GCall.data (fun _ => node55_D v) rfl rfl ?_ | refine GCall.scalT (fun _ => rhas_D l v) ?_ rfl ?_) | ((with_reducible refine MCall.mark ?_); first | refine MCall.data (fun _ => node55_D v) rfl rfl ?_ | refine MCall.plain (PCall.tell (fun _ => rhas_D l v) ?_ rfl ?_)) | refine dcell_ok rfl ?_ | refine AppC.new ?_))
  all_goals first | (with_reducible refine enters_mark ?_; kernel_rfl) | (with_reducible refine boolT_mark ?_; kernel_rfl) | rfl | trivial | assumption | exact Nat.le_of_ble_eq_true rfl | (show entersB _ _ = true; kernel_rfl) | exact DW.same _ rfl | exact DW.ref _ _ _ rfl | exact DW.arr _ _ _ rfl | refine DW.int ?_ | refine dvb ?_ | refine dvi ?_ | exact OW.cells rfl rfl (DWl.same rfl) | exact Nat.zero_le _ | omega | skip
  all_goals repeat' (first | refine OW.cells rfl rfl ?_ | exact DW.nilArr _ rfl | refine DWl.cons ?_ ?_ | exact DWl.nil | exact DW.same _ rfl | exact DW.ref _ _ _ rfl | exact DW.arr _ _ _ rfl | exact DW.sub _ _ _ _ rfl | exact DW.nilLst _ | refine DW.aggl ?_ | refine DW.tupl ?_ | refine DW.clol ?_ ?_ | exact DW.pubM rfl rfl rfl rfl (intsRow _) rfl | exact DW.pubG rfl rfl rfl rfl rfl (intsRow _) rfl | exact DW.pubM rfl (List.length_map _).symm rfl rfl (intsRow _) rfl | exact DW.pubG rfl (List.length_map _).symm rfl rfl rfl (intsRow _) rfl)
  all_goals try ((conv => whnf); with_reducible first | refine Round.mark ?_ | refine Tells.mark ?_ | refine Retold.mark ?_)
  all_goals try first | (show (_ : Bool) = _; simp_all; done) | (show (_ : Int) < _; simp at *; omega) | (show (_ : Int) ≤ _; simp at *; omega) | (show (_ : Nat) < _; simp at *; omega) | (show (_ : Nat) ≤ _; simp at *; omega)
  · show (l.map intD).length * 8 ≤ 140737488355328
    simp; omega
  · simp [maxLen]; omega
  · simp at h
    refine Tells.of (r1 := .tup [ints l, int1 40]) (by simp [linkT, h]) (Tells.mk ?_)
    repeat' (first | exact DW.pubM rfl rfl rfl rfl (intsRow _) rfl | exact DW.pubM rfl (List.length_map _).symm rfl rfl (intsRow _) rfl | exact DW.same _ rfl | refine DW.tupl ?_ | refine DWl.cons ?_ ?_ | exact DWl.nil)
  · rename_i e1
    simp at h e1
    refine Tells.of (r1 := .tup [ints l, int1 41]) (by subst h; simp [linkT, e1]) (Tells.mk ?_)
    repeat' (first | exact DW.pubM rfl rfl rfl rfl (intsRow _) rfl | exact DW.pubM rfl (List.length_map _).symm rfl rfl (intsRow _) rfl | exact DW.same _ rfl | refine DW.tupl ?_ | refine DWl.cons ?_ ?_ | exact DWl.nil)
  · rename_i e1 e2
    simp [hasB] at h e1 e2
    refine Tells.of (r1 := .tup [ints l, int1 42]) (by simp [linkT, e1, e2, h]) (Tells.mk ?_)
    repeat' (first | exact DW.pubM rfl rfl rfl rfl (intsRow _) rfl | exact DW.pubM rfl (List.length_map _).symm rfl rfl (intsRow _) rfl | exact DW.same _ rfl | refine DW.tupl ?_ | refine DWl.cons ?_ ?_ | exact DWl.nil)
  · rename_i e1 e2 e3
    simp [hasB] at h e1 e2 e3
    refine Tells.of (r1 := .tup [ints l, int1 43]) (by unfold linkT; rw [if_neg (by simp [e1]), if_neg e2, if_neg e3, if_pos (by omega)]) (Tells.mk ?_)
    repeat' (first | exact DW.pubM rfl rfl rfl rfl (intsRow _) rfl | exact DW.pubM rfl (List.length_map _).symm rfl rfl (intsRow _) rfl | exact DW.same _ rfl | refine DW.tupl ?_ | refine DWl.cons ?_ ?_ | exact DWl.nil)
  · show (l.map intD).length * 1 ≤ ((l.map intD).flatten).length
    rw [List.length_map, show ((l.map intD).flatten) = rowC l from rfl, rowC_len]; omega
  · simp [maxLen]; omega
  · rename_i e1 e2 e3
    simp [hasB] at h e1 e2 e3
    refine Tells.of (r1 := .tup [ints (l ++ [v]), int1 0]) (by unfold linkT; rw [if_neg (by simp [e1]), if_neg e2, if_neg e3, if_neg (by omega)]) (Tells.mk ?_)
    repeat' (first | exact DW.pubM rfl (by simp) rfl rfl (intsRow _) (rowC_push' l v) | exact DW.same _ rfl | refine DW.tupl ?_ | refine DWl.cons ?_ ?_ | exact DWl.nil)
theorem wrapI {i : Int} (h0 : -9223372036854775808 ≤ i) (h : i < 9223372036854775808) : IntKind.i64.wrap i = i := by
  simp [IntKind.wrap, IntKind.bits, IntKind.signed]; omega

theorem unlink36_D (l : List Int) (turn v : Int) (hl : l.length ≤ 1000000) (ht : turn < 9223372036854775807) :
    DPure Try.prog 36 [ints l, int1 turn, int1 v] (.tup [ints (unlinkT l turn v).1, int1 (unlinkT l turn v).2.1, int1 (unlinkT l turn v).2.2]) := by
  have hI := index_D l v
  by_cases hm : v ∈ l
  · have e : placeI l v = ((l.idxOf v : Nat) : Int) := by simp [placeI, hm]
    have hi : l.idxOf v < l.length := List.idxOf_lt_length_of_mem hm
    rw [e] at hI
    refine DFun.data (DFun.body Try.func36 rfl (by kernel_rfl) ?_)
    repeat' (first | with_reducible rfl | ((conv => whnf); first | refine And.intro ?_ ?_ | (intro h; first | exact Bool.noConfusion h | with_reducible exact h | (have ht : true = true := h; clear ht h) | skip) | ((with_reducible refine DWl.mark ?_); repeat' (first | refine DWl.cons ?_ ?_ | exact DWl.nil | exact DW.same _ rfl | exact DW.ref _ _ _ rfl | exact DW.arr _ _ _ rfl | exact DW.sub _ _ _ _ rfl | exact DW.nilLst _ | refine DW.aggl ?_ | refine DW.tupl ?_ | refine DW.clol ?_ ?_ | exact DW.pubM rfl rfl rfl rfl (intsRow _) rfl | exact DW.pubG rfl rfl rfl rfl rfl (intsRow _) rfl | exact DW.pubM rfl (List.length_map _).symm rfl rfl (intsRow _) rfl | exact DW.pubG rfl (List.length_map _).symm rfl rfl rfl (intsRow _) rfl | refine DW.int ?_ | refine DW.bool ?_ | refine DW.str ?_)) | ((with_reducible refine SCall.mark ?_); first | refine SCall.at [] (fun m => [(m, ⟨3, 1, rowC l⟩)]) (fun m => .arr m l.length) 1 (clone57_O l hl) (by kernel_rfl) ?_ ?_ ?_ ?_ ?_ | refine SCall.scalT (hI) ?_ rfl ?_ | refine SCall.at [0] (fun _ => [(0, ⟨3, 1, rowC (l.eraseIdx (l.idxOf v) ++ [0])⟩)]) (fun _ => .arr 0 (l.length - 1)) 0 (delete_O l (l.idxOf v) hi hl) (by kernel_rfl) ?_ ?_ ?_ ?_ ?_) | ((with_reducible refine PCall.mark ?_); first | refine PCall.tell (fun _ => hI) ?_ rfl ?_) | ((with_reducible refine GCall.mark ?_); first | refine GCall.scalT (fun _ => hI) ?_ rfl ?_) | ((with_reducible refine MCall.mark ?_); first | refine MCall.plain (PCall.tell (fun _ => hI) ?_ rfl ?_)) | refine dcell_ok rfl ?_ | refine AppC.new ?_))
    all_goals first | (with_reducible refine enters_mark ?_; kernel_rfl) | (with_reducible refine boolT_mark ?_; kernel_rfl) | rfl | trivial | assumption | exact Nat.le_of_ble_eq_true rfl | (show entersB _ _ = true; kernel_rfl) | exact DW.same _ rfl | exact DW.ref _ _ _ rfl | exact DW.arr _ _ _ rfl | refine DW.int ?_ | refine dvb ?_ | refine dvi ?_ | exact OW.cells rfl rfl (DWl.same rfl) | exact Nat.zero_le _ | omega | skip
    all_goals repeat' (first | refine OW.cells rfl rfl ?_ | exact DW.nilArr _ rfl | refine DWl.cons ?_ ?_ | exact DWl.nil | exact DW.same _ rfl | exact DW.ref _ _ _ rfl | exact DW.arr _ _ _ rfl | exact DW.sub _ _ _ _ rfl | exact DW.nilLst _ | refine DW.aggl ?_ | refine DW.tupl ?_ | refine DW.clol ?_ ?_ | exact DW.pubM rfl rfl rfl rfl (intsRow _) rfl | exact DW.pubG rfl rfl rfl rfl rfl (intsRow _) rfl | exact DW.pubM rfl (List.length_map _).symm rfl rfl (intsRow _) rfl | exact DW.pubG rfl (List.length_map _).symm rfl rfl rfl (intsRow _) rfl)
    all_goals try ((conv => whnf); with_reducible first | refine Round.mark ?_ | refine Tells.mark ?_ | refine Retold.mark ?_)
    all_goals try first | (show (_ : Bool) = _; simp_all; done) | (show (_ : Int) < _; simp at *; omega) | (show (_ : Int) ≤ _; simp at *; omega) | (show (_ : Nat) < _; simp at *; omega) | (show (_ : Nat) ≤ _; simp at *; omega)
    · exact DWl.same (rowC_all _)
    · exact DWl.same (rowC_all _)
    · exact wrapI (by omega) (by omega)
    · exact DWl.same (rowC_all _)
    · rename_i e1
      have hw : IntKind.i64.wrap (turn - 1) = turn - 1 := wrapI (by have := of_decide_eq_true e1; omega) (by omega)
      rw [hw] at h
      have e1 := of_decide_eq_true e1
      have h := of_decide_eq_true h
      refine Tells.of (r1 := .tup [ints (l.eraseIdx (l.idxOf v)), int1 0, int1 0]) (by unfold unlinkT; rw [if_pos hm]; simp only [if_pos e1]; rw [if_pos h]) (Tells.mk ?_)
      repeat' (first | exact DW.pubX (rowC [0]) rfl rfl (by decide) trivial (by rw [List.length_map, List.length_eraseIdx_of_lt hi]) (intsRow _) rfl (rowC_app _ _) | exact DW.same _ rfl | refine DW.tupl ?_ | refine DWl.cons ?_ ?_ | exact DWl.nil | refine DW.int ?_)
    · rename_i e1
      have hw : IntKind.i64.wrap (turn - 1) = turn - 1 := wrapI (by have := of_decide_eq_true e1; omega) (by omega)
      rw [hw] at h
      have e1 := of_decide_eq_true e1
      have h := of_decide_eq_false h
      refine Tells.of (r1 := .tup [ints (l.eraseIdx (l.idxOf v)), int1 (turn - 1), int1 0]) (by unfold unlinkT; rw [if_pos hm]; simp only [if_pos e1]; rw [if_neg h]) (Tells.mk ?_)
      repeat' (first | exact DW.pubX (rowC [0]) rfl rfl (by decide) trivial (by rw [List.length_map, List.length_eraseIdx_of_lt hi]) (intsRow _) rfl (rowC_app _ _) | exact DW.same _ rfl | refine DW.tupl ?_ | refine DWl.cons ?_ ?_ | exact DWl.nil | refine DW.int ?_)
      exact hw
    · rename_i e1
      have e1 := of_decide_eq_false e1
      have h := of_decide_eq_true h
      refine Tells.of (r1 := .tup [ints (l.eraseIdx (l.idxOf v)), int1 0, int1 0]) (by unfold unlinkT; rw [if_pos hm]; simp only [if_neg e1]; rw [if_pos h]) (Tells.mk ?_)
      repeat' (first | exact DW.pubX (rowC [0]) rfl rfl (by decide) trivial (by rw [List.length_map, List.length_eraseIdx_of_lt hi]) (intsRow _) rfl (rowC_app _ _) | exact DW.same _ rfl | refine DW.tupl ?_ | refine DWl.cons ?_ ?_ | exact DWl.nil | refine DW.int ?_)
    · rename_i e1
      have e1 := of_decide_eq_false e1
      have h := of_decide_eq_false h
      refine Tells.of (r1 := .tup [ints (l.eraseIdx (l.idxOf v)), int1 turn, int1 0]) (by unfold unlinkT; rw [if_pos hm]; simp only [if_neg e1]; rw [if_neg h]) (Tells.mk ?_)
      repeat' (first | exact DW.pubX (rowC [0]) rfl rfl (by decide) trivial (by rw [List.length_map, List.length_eraseIdx_of_lt hi]) (intsRow _) rfl (rowC_app _ _) | exact DW.same _ rfl | refine DW.tupl ?_ | refine DWl.cons ?_ ?_ | exact DWl.nil | refine DW.int ?_)
  · have e : placeI l v = -1 := by simp [placeI, hm]
    rw [e] at hI
    refine DFun.data (DFun.body Try.func36 rfl (by kernel_rfl) ?_)
    repeat' (first | with_reducible rfl | ((conv => whnf); first | refine And.intro ?_ ?_ | (intro h; first | exact Bool.noConfusion h | with_reducible exact h | (have ht : true = true := h; clear ht h) | skip) | ((with_reducible refine DWl.mark ?_); repeat' (first | refine DWl.cons ?_ ?_ | exact DWl.nil | exact DW.same _ rfl | exact DW.ref _ _ _ rfl | exact DW.arr _ _ _ rfl | exact DW.sub _ _ _ _ rfl | exact DW.nilLst _ | refine DW.aggl ?_ | refine DW.tupl ?_ | refine DW.clol ?_ ?_ | exact DW.pubM rfl rfl rfl rfl (intsRow _) rfl | exact DW.pubG rfl rfl rfl rfl rfl (intsRow _) rfl | exact DW.pubM rfl (List.length_map _).symm rfl rfl (intsRow _) rfl | exact DW.pubG rfl (List.length_map _).symm rfl rfl rfl (intsRow _) rfl | refine DW.int ?_ | refine DW.bool ?_ | refine DW.str ?_)) | ((with_reducible refine SCall.mark ?_); first | refine SCall.at [] (fun m => [(m, ⟨3, 1, rowC l⟩)]) (fun m => .arr m l.length) 1 (clone57_O l hl) (by kernel_rfl) ?_ ?_ ?_ ?_ ?_ | refine SCall.scalT (hI) ?_ rfl ?_) | ((with_reducible refine PCall.mark ?_); first | refine PCall.tell (fun _ => hI) ?_ rfl ?_) | ((with_reducible refine GCall.mark ?_); first | refine GCall.scalT (fun _ => hI) ?_ rfl ?_) | ((with_reducible refine MCall.mark ?_); first | refine MCall.plain (PCall.tell (fun _ => hI) ?_ rfl ?_)) | refine dcell_ok rfl ?_ | refine AppC.new ?_))
    all_goals first | (with_reducible refine enters_mark ?_; kernel_rfl) | (with_reducible refine boolT_mark ?_; kernel_rfl) | rfl | trivial | assumption | exact Nat.le_of_ble_eq_true rfl | (show entersB _ _ = true; kernel_rfl) | exact DW.same _ rfl | exact DW.ref _ _ _ rfl | exact DW.arr _ _ _ rfl | refine DW.int ?_ | refine dvb ?_ | refine dvi ?_ | exact OW.cells rfl rfl (DWl.same rfl) | exact Nat.zero_le _ | omega | skip
    all_goals repeat' (first | refine OW.cells rfl rfl ?_ | exact DW.nilArr _ rfl | refine DWl.cons ?_ ?_ | exact DWl.nil | exact DW.same _ rfl | exact DW.ref _ _ _ rfl | exact DW.arr _ _ _ rfl | exact DW.sub _ _ _ _ rfl | exact DW.nilLst _ | refine DW.aggl ?_ | refine DW.tupl ?_ | refine DW.clol ?_ ?_ | exact DW.pubM rfl rfl rfl rfl (intsRow _) rfl | exact DW.pubG rfl rfl rfl rfl rfl (intsRow _) rfl | exact DW.pubM rfl (List.length_map _).symm rfl rfl (intsRow _) rfl | exact DW.pubG rfl (List.length_map _).symm rfl rfl rfl (intsRow _) rfl)
    all_goals try ((conv => whnf); with_reducible first | refine Round.mark ?_ | refine Tells.mark ?_ | refine Retold.mark ?_)
    all_goals try first | (show (_ : Bool) = _; simp_all; done) | (show (_ : Int) < _; simp at *; omega) | (show (_ : Int) ≤ _; simp at *; omega) | (show (_ : Nat) < _; simp at *; omega) | (show (_ : Nat) ≤ _; simp at *; omega)
    · exact DWl.same (rowC_all _)
    · skip
      refine Tells.of (r1 := .tup [ints l, int1 turn, int1 44]) (by unfold unlinkT; rw [if_neg hm]) (Tells.mk ?_)
      repeat' (first | exact DW.pubM rfl rfl rfl rfl (intsRow _) rfl | exact DW.same _ rfl | refine DW.tupl ?_ | refine DWl.cons ?_ ?_ | exact DWl.nil | refine DW.int ?_)
def cutA (l : List Int) (i : Nat) : List (List DV) := ((l.map intD).take (i : Int).toNat).drop (0 : Int).toNat
def cutB (l : List Int) (i : Nat) : List (List DV) := ((l.map intD).take (((l.map intD).length : Nat) : Int).toNat).drop (IntKind.i64.wrap ((i : Int) + 1)).toNat
theorem cutA_eq (l : List Int) (i : Nat) : cutA l i = (l.take i).map intD := by simp [cutA, List.map_take]
theorem cutB_eq (l : List Int) (i : Nat) (hi : i < l.length) (hl : l.length ≤ 1000000) : cutB l i = (l.drop (i + 1)).map intD := by
  unfold cutB
  rw [wrapI (by omega) (by omega), List.take_of_length_le (by simp), List.map_drop]
  congr 1
theorem cutA_len (l : List Int) (i : Nat) (hi : i < l.length) : (cutA l i).length = i := by rw [cutA_eq]; simp; omega
theorem cutB_len (l : List Int) (i : Nat) (hi : i < l.length) (hl : l.length ≤ 1000000) : (cutB l i).length = l.length - (i + 1) := by rw [cutB_eq l i hi hl]; simp
theorem cut_all (l : List Int) (i : Nat) (hi : i < l.length) (hl : l.length ≤ 1000000) : (cutA l i).flatten.take ((cutA l i).length * 1) ++ (cutB l i).flatten = ((l.eraseIdx i).map intD).flatten := by
  rw [cutA_len l i hi, cutA_eq, cutB_eq l i hi hl, show ((l.take i).map intD).flatten = rowC (l.take i) from rfl, List.take_of_length_le (by rw [rowC_len, List.length_take]; omega), List.eraseIdx_eq_take_drop_succ, List.map_append, List.flatten_append]
  rfl
theorem unlink37_D (l : List Int) (turn v : Int) (hl : l.length ≤ 1000000) (ht : turn < 9223372036854775807) :
    DPure Try.prog 37 [ints l, int1 turn, int1 v] (.tup [ints (unlinkT l turn v).1, int1 (unlinkT l turn v).2.1, int1 (unlinkT l turn v).2.2]) := by
  have hI := place_D l v
  by_cases hm : v ∈ l
  · have e : placeI l v = ((l.idxOf v : Nat) : Int) := by simp [placeI, hm]
    have hi : l.idxOf v < l.length := List.idxOf_lt_length_of_mem hm
    rw [e] at hI
    have hcA := cutA_len l _ hi
    have hcB := cutB_len l _ hi hl
    have hlen : (l.eraseIdx (l.idxOf v)).length = (cutA l (l.idxOf v)).length + (cutB l (l.idxOf v)).length := by rw [hcA, hcB, List.length_eraseIdx_of_lt hi]; omega
    refine DFun.data (DFun.body Try.func37 rfl (by kernel_rfl) ?_)
    repeat' (first | with_reducible rfl | ((conv => whnf); first | refine And.intro ?_ ?_ | (intro h; first | exact Bool.noConfusion h | with_reducible exact h | (have ht : true = true := h; clear ht h) | skip) | ((with_reducible refine DWl.mark ?_); repeat' (first | refine DWl.cons ?_ ?_ | exact DWl.nil | exact DW.same _ rfl | exact DW.ref _ _ _ rfl | exact DW.arr _ _ _ rfl | exact DW.sub _ _ _ _ rfl | exact DW.nilLst _ | refine DW.aggl ?_ | refine DW.tupl ?_ | refine DW.clol ?_ ?_ | exact DW.pubM rfl rfl rfl rfl (intsRow _) rfl | exact DW.pubG rfl rfl rfl rfl rfl (intsRow _) rfl | exact DW.pubM rfl (List.length_map _).symm rfl rfl (intsRow _) rfl | exact DW.pubG rfl (List.length_map _).symm rfl rfl rfl (intsRow _) rfl | refine DW.int ?_ | refine DW.bool ?_ | refine DW.str ?_)) | ((with_reducible refine SCall.mark ?_); first | refine SCall.data (hI) rfl rfl ?_) | ((with_reducible refine GCall.mark ?_); first | refine GCall.data (fun _ => hI) rfl rfl ?_) | ((with_reducible refine MCall.mark ?_); first | refine MCall.data (fun _ => hI) rfl rfl ?_) | refine dcell_ok rfl ?_ | refine AppC.new ?_))
    all_goals first | (with_reducible refine enters_mark ?_; kernel_rfl) | (with_reducible refine boolT_mark ?_; kernel_rfl) | rfl | trivial | assumption | exact Nat.le_of_ble_eq_true rfl | (show entersB _ _ = true; kernel_rfl) | exact DW.same _ rfl | exact DW.ref _ _ _ rfl | exact DW.arr _ _ _ rfl | refine DW.int ?_ | refine dvb ?_ | refine dvi ?_ | exact OW.cells rfl rfl (DWl.same rfl) | exact Nat.zero_le _ | omega | skip
    all_goals repeat' (first | refine OW.cells rfl rfl ?_ | exact DW.nilArr _ rfl | refine DWl.cons ?_ ?_ | exact DWl.nil | exact DW.same _ rfl | exact DW.ref _ _ _ rfl | exact DW.arr _ _ _ rfl | exact DW.sub _ _ _ _ rfl | exact DW.nilLst _ | refine DW.aggl ?_ | refine DW.tupl ?_ | refine DW.clol ?_ ?_ | exact DW.pubM rfl rfl rfl rfl (intsRow _) rfl | exact DW.pubG rfl rfl rfl rfl rfl (intsRow _) rfl | exact DW.pubM rfl (List.length_map _).symm rfl rfl (intsRow _) rfl | exact DW.pubG rfl (List.length_map _).symm rfl rfl rfl (intsRow _) rfl)
    all_goals try ((conv => whnf); with_reducible first | refine Round.mark ?_ | refine Tells.mark ?_ | refine Retold.mark ?_)
    all_goals try first | (show (_ : Bool) = _; simp_all; done) | (show (_ : Int) < _; simp at *; omega) | (show (_ : Int) ≤ _; simp at *; omega) | (show (_ : Nat) < _; simp at *; omega) | (show (_ : Nat) ≤ _; simp at *; omega)
    · show (cutA l (l.idxOf v)).length * 8 ≤ 140737488355328
      omega
    · show (cutA l (l.idxOf v)).length ≤ maxLen
      simp only [maxLen]; omega
    · rw [wrapI (by omega) (by omega)]; omega
    · rw [wrapI (by omega) (by omega), List.length_map]; omega
    · show (cutA l (l.idxOf v)).length * 1 ≤ (cutA l (l.idxOf v)).flatten.length
      rw [hcA, cutA_eq, show ((l.take (l.idxOf v)).map intD).flatten = rowC (l.take (l.idxOf v)) from rfl, rowC_len, List.length_take]; omega
    · show ((cutA l (l.idxOf v)).length + (cutB l (l.idxOf v)).length) * 8 ≤ 140737488355328
      omega
    · show (cutA l (l.idxOf v)).length + (cutB l (l.idxOf v)).length ≤ maxLen
      simp only [maxLen]; omega
    · rename_i e1
      have hw : IntKind.i64.wrap (turn - 1) = turn - 1 := wrapI (by have := of_decide_eq_true e1; omega) (by omega)
      rw [hw] at h
      have e1 := of_decide_eq_true e1
      have h : decide ((((cutA l (l.idxOf v)).length + (cutB l (l.idxOf v)).length : Nat) : Int) ≤ (turn - 1)) = true := h
      rw [← hlen, List.length_eraseIdx_of_lt hi] at h
      have h := of_decide_eq_true h
      refine Tells.of (r1 := .tup [ints (l.eraseIdx (l.idxOf v)), int1 0, int1 0]) (by unfold unlinkT; rw [if_pos hm]; simp only [if_pos e1]; rw [if_pos h]) (Tells.mk ?_)
      repeat' (first | exact DW.pubM rfl hlen rfl rfl (intsRow _) (cut_all l _ hi hl) | exact DW.same _ rfl | refine DW.tupl ?_ | refine DWl.cons ?_ ?_ | exact DWl.nil | refine DW.int ?_)
    · rename_i e1
      have hw : IntKind.i64.wrap (turn - 1) = turn - 1 := wrapI (by have := of_decide_eq_true e1; omega) (by omega)
      rw [hw] at h
      have e1 := of_decide_eq_true e1
      have h : decide ((((cutA l (l.idxOf v)).length + (cutB l (l.idxOf v)).length : Nat) : Int) ≤ (turn - 1)) = false := h
      rw [← hlen, List.length_eraseIdx_of_lt hi] at h
      have h := of_decide_eq_false h
      refine Tells.of (r1 := .tup [ints (l.eraseIdx (l.idxOf v)), int1 (turn - 1), int1 0]) (by unfold unlinkT; rw [if_pos hm]; simp only [if_pos e1]; rw [if_neg h]) (Tells.mk ?_)
      repeat' (first | exact DW.pubM rfl hlen rfl rfl (intsRow _) (cut_all l _ hi hl) | exact DW.same _ rfl | refine DW.tupl ?_ | refine DWl.cons ?_ ?_ | exact DWl.nil | refine DW.int ?_)
      exact hw
    · rename_i e1
      have e1 := of_decide_eq_false e1
      have h : decide ((((cutA l (l.idxOf v)).length + (cutB l (l.idxOf v)).length : Nat) : Int) ≤ turn) = true := h
      rw [← hlen, List.length_eraseIdx_of_lt hi] at h
      have h := of_decide_eq_true h
      refine Tells.of (r1 := .tup [ints (l.eraseIdx (l.idxOf v)), int1 0, int1 0]) (by unfold unlinkT; rw [if_pos hm]; simp only [if_neg e1]; rw [if_pos h]) (Tells.mk ?_)
      repeat' (first | exact DW.pubM rfl hlen rfl rfl (intsRow _) (cut_all l _ hi hl) | exact DW.same _ rfl | refine DW.tupl ?_ | refine DWl.cons ?_ ?_ | exact DWl.nil | refine DW.int ?_)
    · rename_i e1
      have e1 := of_decide_eq_false e1
      have h : decide ((((cutA l (l.idxOf v)).length + (cutB l (l.idxOf v)).length : Nat) : Int) ≤ turn) = false := h
      rw [← hlen, List.length_eraseIdx_of_lt hi] at h
      have h := of_decide_eq_false h
      refine Tells.of (r1 := .tup [ints (l.eraseIdx (l.idxOf v)), int1 turn, int1 0]) (by unfold unlinkT; rw [if_pos hm]; simp only [if_neg e1]; rw [if_neg h]) (Tells.mk ?_)
      repeat' (first | exact DW.pubM rfl hlen rfl rfl (intsRow _) (cut_all l _ hi hl) | exact DW.same _ rfl | refine DW.tupl ?_ | refine DWl.cons ?_ ?_ | exact DWl.nil | refine DW.int ?_)
  · have e : placeI l v = -1 := by simp [placeI, hm]
    rw [e] at hI
    refine DFun.data (DFun.body Try.func37 rfl (by kernel_rfl) ?_)
    repeat' (first | with_reducible rfl | ((conv => whnf); first | refine And.intro ?_ ?_ | (intro h; first | exact Bool.noConfusion h | with_reducible exact h | (have ht : true = true := h; clear ht h) | skip) | ((with_reducible refine DWl.mark ?_); repeat' (first | refine DWl.cons ?_ ?_ | exact DWl.nil | exact DW.same _ rfl | exact DW.ref _ _ _ rfl | exact DW.arr _ _ _ rfl | exact DW.sub _ _ _ _ rfl | exact DW.nilLst _ | refine DW.aggl ?_ | refine DW.tupl ?_ | refine DW.clol ?_ ?_ | exact DW.pubM rfl rfl rfl rfl (intsRow _) rfl | exact DW.pubG rfl rfl rfl rfl rfl (intsRow _) rfl | exact DW.pubM rfl (List.length_map _).symm rfl rfl (intsRow _) rfl | exact DW.pubG rfl (List.length_map _).symm rfl rfl rfl (intsRow _) rfl | refine DW.int ?_ | refine DW.bool ?_ | refine DW.str ?_)) | ((with_reducible refine SCall.mark ?_); first | refine SCall.data (copied58_D l hl) rfl rfl ?_ | refine SCall.data (hI) rfl rfl ?_) | ((with_reducible refine GCall.mark ?_); first | refine GCall.data (fun _ => copied58_D l hl) rfl rfl ?_ | refine GCall.data (fun _ => hI) rfl rfl ?_) | ((with_reducible refine MCall.mark ?_); first | refine MCall.data (fun _ => copied58_D l hl) rfl rfl ?_ | refine MCall.data (fun _ => hI) rfl rfl ?_) | refine dcell_ok rfl ?_ | refine AppC.new ?_))
    all_goals first | (with_reducible refine enters_mark ?_; kernel_rfl) | (with_reducible refine boolT_mark ?_; kernel_rfl) | rfl | trivial | assumption | exact Nat.le_of_ble_eq_true rfl | (show entersB _ _ = true; kernel_rfl) | exact DW.same _ rfl | exact DW.ref _ _ _ rfl | exact DW.arr _ _ _ rfl | refine DW.int ?_ | refine dvb ?_ | refine dvi ?_ | exact OW.cells rfl rfl (DWl.same rfl) | exact Nat.zero_le _ | omega | skip
    all_goals repeat' (first | refine OW.cells rfl rfl ?_ | exact DW.nilArr _ rfl | refine DWl.cons ?_ ?_ | exact DWl.nil | exact DW.same _ rfl | exact DW.ref _ _ _ rfl | exact DW.arr _ _ _ rfl | exact DW.sub _ _ _ _ rfl | exact DW.nilLst _ | refine DW.aggl ?_ | refine DW.tupl ?_ | refine DW.clol ?_ ?_ | exact DW.pubM rfl rfl rfl rfl (intsRow _) rfl | exact DW.pubG rfl rfl rfl rfl rfl (intsRow _) rfl | exact DW.pubM rfl (List.length_map _).symm rfl rfl (intsRow _) rfl | exact DW.pubG rfl (List.length_map _).symm rfl rfl rfl (intsRow _) rfl)
    all_goals try ((conv => whnf); with_reducible first | refine Round.mark ?_ | refine Tells.mark ?_ | refine Retold.mark ?_)
    all_goals try first | (show (_ : Bool) = _; simp_all; done) | (show (_ : Int) < _; simp at *; omega) | (show (_ : Int) ≤ _; simp at *; omega) | (show (_ : Nat) < _; simp at *; omega) | (show (_ : Nat) ≤ _; simp at *; omega)
    · skip
      refine Tells.of (r1 := .tup [ints l, int1 turn, int1 44]) (by unfold unlinkT; rw [if_neg hm]) (Tells.mk ?_)
      repeat' (first | exact DW.pubM rfl rfl rfl rfl (intsRow _) rfl | exact DW.same _ rfl | refine DW.tupl ?_ | refine DWl.cons ?_ ?_ | exact DWl.nil | refine DW.int ?_)
end Go.Proofs.Ytopdllcpeaflaaa
