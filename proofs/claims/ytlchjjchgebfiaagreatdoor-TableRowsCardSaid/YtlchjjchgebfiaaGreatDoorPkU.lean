/- Rows, cloned. -/
import Derived.Test.YtlchjjchgebfiaaGreatDoorPkR
import Derived.Test.YtlchjjchgebfiaaGreatDoorPkK
import Derived.Test.YtlchjjchgebfiaaGreatDoorPkA

namespace Go.Proofs.YtlchjjchgebfiaaGreatDoor
open Go.RowKit Go.Dl
attribute [local irreducible] Tri SCall TSem ECall Drawn DFun QSem PSem PCall GCall MCall Round Weak dloadE OW DWl Tells IntKind.wrap Retold ESem
set_option maxRecDepth 20000 in
theorem clone56_D (l : List ByteArray) (h1 : 1 ≤ l.length) (hl : l.length ≤ 4096) : DPure Tryz.prog 56 [strs l] (strs l) := by
  have hne : l.map strD ≠ [] := fun e => by have : (l.map strD).length = 0 := by rw [e]; rfl
                                            rw [List.length_map] at this; omega
  refine DFun.data (DFun.body Tryz.func56 rfl (by kernel_rfl) ?_)
  repeat' (first | with_reducible rfl | ((conv => whnf); first | refine And.intro ?_ ?_ | (intro h; first | with_reducible exact tf_no h | with_reducible exact ft_no h | exact Bool.noConfusion h | with_reducible exact h | (have ht : true = true := h; clear ht h) | skip) | ((with_reducible refine ECall.mark ?_); first | refine ECall.only ?_ (fun h => nomatch h) | refine ECall.only ?_ ?_) | ((with_reducible refine Drawn.mark ?_); first | refine Drawn.quiet (by kernel_rfl) ?_) | refine dq_nilL rfl (fun _ => hne) ?_ rfl ?_ rfl ?_ | refine dcell_ok rfl ?_ | refine AppC.new ?_))
  all_goals first | (with_reducible refine enters_mark ?_; kernel_rfl) | (with_reducible refine boolT_mark ?_; kernel_rfl) | rfl | trivial | assumption | exact Nat.le_of_ble_eq_true rfl | (show entersB _ _ = true; kernel_rfl) | exact DW.same _ rfl | exact DW.ref _ _ _ rfl | exact DW.arr _ _ _ rfl | refine DW.int ?_ | refine dvb ?_ | refine dvi ?_ | exact OW.cells rfl rfl (DWl.same rfl) | exact Nat.zero_le _ | omega | skip
  all_goals repeat' (first | refine OW.cells rfl rfl ?_ | exact DW.nilArr _ rfl | refine DWl.cons ?_ ?_ | exact DWl.nil | exact DW.same _ rfl | exact DW.ref _ _ _ rfl | exact DW.arr _ _ _ rfl | exact DW.sub _ _ _ _ rfl | exact DW.mo _ _ rfl | exact DW.nilLst _ | refine DW.aggl ?_ | refine DW.tupl ?_ | refine DW.clol ?_ ?_)
  all_goals try ((conv => whnf); with_reducible first | refine Round.mark ?_ | refine Tells.mark ?_ | refine Retold.mark ?_)
  all_goals try first | (show (_ : Bool) = _; simp_all; done) | (show (_ : Int) < _; simp at *; omega) | (show (_ : Int) ≤ _; simp at *; omega) | (show (_ : Nat) < _; simp at *; omega) | (show (_ : Nat) ≤ _; simp at *; omega)
  · show (0 + (l.map strD).length) * 16 ≤ 140737488355328
    rw [List.length_map]; omega
  · rw [List.length_map]; simp only [maxLen]; omega
  · conv => whnf
    exact Tells.mk (DW.pubM rfl (by rw [Nat.zero_add, List.length_map]) rfl rfl strRow rfl)
def rw57St (rows : List (List ByteArray)) (i : Nat) : St := ⟨0, tmOf [(3, .arr 0 i), (6, rowsD rows), (7, int1 (rows.map rowD).length), (8, int1 i)], .of [(0, ⟨22, 1, rowsC (rows.take i)⟩)] 1⟩
theorem rowsC_next {rows : List (List ByteArray)} {i : Nat} (h : i < rows.length) : (rowsC (rows.take i)).take (i * 1) ++ [strs (rows.getD (i : Int).toNat [])] = rowsC (rows.take (i + 1)) := by
  have hl : (rows.take i).length = i := by rw [List.length_take]; omega
  have := rowsC_push (rows.take i) (rows.getD i [])
  rw [hl] at this
  rw [Int.toNat_natCast, this, take_succ (d := []) h]
set_option maxRecDepth 20000 in
theorem rc_c1 {rows : List (List ByteArray)} {i : Nat} (h : i < rows.length) : i * Tryz.prog.types[22].size ≤ (rowsC (rows.take i)).length := by
  rw [rowsC_len, List.length_take]
  show i * 1 ≤ _
  omega
attribute [local irreducible] rowsC
set_option maxRecDepth 20000 in
theorem rows57_K (rows : List (List ByteArray)) (hn : rows.length ≤ 4096) (hr : ∀ r ∈ rows, 1 ≤ r.length ∧ r.length ≤ 4096) {K : DV → Sto → Prop} (hK : K (.arr 0 rows.length) (.of [(0, ⟨22, 1, rowsC rows⟩)] 1)) : SCall Tryz.prog 57 [rowsD rows] (.of [] 0) K := by
  have hc := fun r (h : r ∈ rows) => clone56_D r (hr r h).1 (hr r h).2
  refine SCall.retell (SCall.run Tryz.func57 rfl (Nat.le_of_ble_eq_true rfl) (by kernel_rfl) ?_)
  repeat' (first | with_reducible rfl | ((conv => whnf); first | refine And.intro ?_ ?_ | (intro h; first | with_reducible exact tf_no h | with_reducible exact ft_no h | exact Bool.noConfusion h | with_reducible exact h | (have ht : true = true := h; clear ht h) | skip) | ((with_reducible refine ECall.mark ?_); first | refine ECall.only ?_ (fun h => nomatch h) | refine ECall.only ?_ ?_) | ((with_reducible refine Drawn.mark ?_); first | refine Drawn.quiet (by kernel_rfl) ?_) | refine dcell_ok rfl ?_ | refine AppC.new ?_))
  all_goals first | (with_reducible refine enters_mark ?_; kernel_rfl) | (with_reducible refine boolT_mark ?_; kernel_rfl) | rfl | trivial | assumption | exact Nat.le_of_ble_eq_true rfl | (show entersB _ _ = true; kernel_rfl) | exact DW.same _ rfl | exact DW.ref _ _ _ rfl | exact DW.arr _ _ _ rfl | refine DW.int ?_ | refine dvb ?_ | refine dvi ?_ | exact OW.cells rfl rfl (DWl.same rfl) | exact Nat.zero_le _ | omega | skip
  all_goals repeat' (first | refine OW.cells rfl rfl ?_ | exact DW.nilArr _ rfl | refine DWl.cons ?_ ?_ | exact DWl.nil | exact DW.same _ rfl | exact DW.ref _ _ _ rfl | exact DW.arr _ _ _ rfl | exact DW.sub _ _ _ _ rfl | exact DW.mo _ _ rfl | exact DW.nilLst _ | refine DW.aggl ?_ | refine DW.tupl ?_ | refine DW.clol ?_ ?_)
  all_goals try ((conv => whnf); with_reducible first | refine Round.mark ?_ | refine Tells.mark ?_ | refine Retold.mark ?_)
  all_goals try first | (show (_ : Bool) = _; simp_all; done) | (show (_ : Int) < _; simp at *; omega) | (show (_ : Int) ≤ _; simp at *; omega) | (show (_ : Nat) < _; simp at *; omega) | (show (_ : Nat) ≤ _; simp at *; omega)
  conv => whnf
  refine Tri.loop (rw57St rows) (· ≤ rows.length) (fun i => rows.length - i) 0 (by kernel_rfl) (Weak.list [(0, none)] [] (by kernel_rfl) ?_ ?_) (Nat.zero_le _) ?_
  iterate 2 · repeat' (first | exact rowsC_nil | exact DW.nilArr _ rfl | exact DW.same _ rfl | exact DW.ref _ _ _ rfl | exact DW.arr _ _ _ rfl | exact OW.cells rfl rfl (DWl.same rfl) | refine OW.cells rfl rfl ?_ | refine DWl.cons ?_ ?_ | exact DWl.nil | exact DW.nilArr _ rfl | exact DW.nilLst _ | refine DW.clol ?_ ?_ | refine DW.aggl ?_ | refine DW.tupl ?_ | refine DW.int ?_ | refine DW.bool ?_ | refine DW.str ?_ | refine DW.arrE rfl ?_ | ((conv => whnf); first | refine And.intro ?_ ?_ | trivial))
  intro i hi
  have hi : i ≤ rows.length := hi
  show dcode _ _ _ _ (rw57St rows i) _
  repeat' (first | with_reducible rfl | ((conv => whnf); first | refine And.intro ?_ ?_ | (intro h; first | with_reducible exact tf_no h | with_reducible exact ft_no h | exact Bool.noConfusion h | with_reducible exact h | (have ht : true = true := h; clear ht h) | skip) | ((with_reducible refine SCall.mark ?_); first | refine SCall.data (hc _ ?_) rfl rfl ?_ | refine SCall.scal (hc _ ?_) rfl rfl ?_) | ((with_reducible refine PCall.mark ?_); first | refine PCall.mk (hc _ ?_) rfl rfl ?_) | ((with_reducible refine GCall.mark ?_); first | refine GCall.data (fun _ => hc _ ?_) rfl rfl ?_ | refine GCall.scal (fun _ => hc _ ?_) rfl rfl ?_) | ((with_reducible refine MCall.mark ?_); first | refine MCall.data (fun _ => hc _ ?_) rfl rfl ?_ | refine MCall.plain (PCall.mk (hc _ ?_) rfl rfl ?_)) | ((with_reducible refine ECall.mark ?_); first | refine ECall.only ?_ (fun h => nomatch h) | refine ECall.only ?_ ?_) | ((with_reducible refine Drawn.mark ?_); first | refine Drawn.quiet (by kernel_rfl) ?_) | refine dloadE_map (([] : List ByteArray)) ?_ ?_ | refine dcell_ok rfl ?_ | refine AppC.new ?_))
  all_goals try ((conv => whnf); with_reducible refine Round.mark ?_)
  all_goals try first | ((with_reducible show Option.isSome (slElem _ _) = true); kernel_rfl) | ((with_reducible show slElem _ _ = some _); kernel_rfl) | ((with_reducible refine enters_mark ?_); kernel_rfl) | (with_reducible assumption) | ((with_reducible show List.all _ DV.one = true); rfl) | ((with_reducible show (_ : Nat) = _); rfl) | ((with_reducible show (_ == true) = true); simpa using h) | ((with_reducible show (_ : Nat) ≤ _); exact Nat.le_of_ble_eq_true rfl) | ((with_reducible show (_ : Int) ≤ _); first | omega | decide) | ((with_reducible show (_ : Int) < _); first | omega | decide) | ((with_reducible show (_ : Nat) < _); omega) | ((with_reducible show (_ : Nat) ≤ _); omega)
  · exact of_decide_eq_true h
  · exact lt_of_test h
  · exact mem_at (lt_of_test h)
  · exact rc_c1 (lt_of_test h)
  · exact rc_b2 (by omega)
  · exact rc_b3 (by omega)
  · have hlt : i < rows.length := lt_of_test h
    refine Round.go (· + 1) hlt (by show rows.length - (i + 1) < rows.length - i; omega) (Weak.list [(0, some 2)] [] (by kernel_rfl) ?_ ?_)
    iterate 2 · repeat' (first | exact wsucc hlt (by omega) | exact DWl.eq (rowsC_next hlt) (rowsC_all _) | exact DW.same _ rfl | exact DW.ref _ _ _ rfl | exact DW.arr _ _ _ rfl | exact OW.cells rfl rfl (DWl.same rfl) | refine OW.cells rfl rfl ?_ | refine DWl.cons ?_ ?_ | exact DWl.nil | exact DW.nilArr _ rfl | exact DW.nilLst _ | refine DW.clol ?_ ?_ | refine DW.aggl ?_ | refine DW.tupl ?_ | refine DW.int ?_ | refine DW.bool ?_ | refine DW.str ?_ | refine DW.arrE rfl ?_ | ((conv => whnf); first | refine And.intro ?_ ?_ | trivial))
  · have hi : i = rows.length := by have := ge_of_test h; omega
    subst hi
    conv => whnf
    refine Retold.list [(0, some 0)] [] (.arr 0 rows.length) [(0, ⟨22, 1, rowsC rows⟩)] 1 (by kernel_rfl) ?_ ?_ hK
    iterate 2 · repeat' (first | exact DWl.eq (by rw [List.take_length]) (rowsC_all _) | exact DW.same _ rfl | exact DW.ref _ _ _ rfl | exact DW.arr _ _ _ rfl | exact OW.cells rfl rfl (DWl.same rfl) | refine OW.cells rfl rfl ?_ | refine DWl.cons ?_ ?_ | exact DWl.nil | exact DW.nilArr _ rfl | exact DW.nilLst _ | refine DW.clol ?_ ?_ | refine DW.aggl ?_ | refine DW.tupl ?_ | refine DW.int ?_ | refine DW.bool ?_ | refine DW.str ?_ | refine DW.arrE rfl ?_ | ((conv => whnf); first | refine And.intro ?_ ?_ | trivial))
end Go.Proofs.YtlchjjchgebfiaaGreatDoor

namespace Go.Proofs.YtlchjjchgebfiaaGreatDoor
open Go.RowKit Go.Dl
attribute [local irreducible] Tri SCall TSem ECall Drawn DFun QSem PSem PCall GCall MCall Round Weak dloadE OW DWl Tells Retold ESem
def exH : List ByteArray := [⟨#[110, 111, 100, 101]⟩, ⟨#[101, 115, 116]⟩]
def exA : List ByteArray := [⟨#[48]⟩, ⟨#[45, 53]⟩]
def exB : List ByteArray := [⟨#[49, 48]⟩, ⟨#[55]⟩]
def exTb : Tb := ⟨exH, [exA, exB]⟩
def exTs : Tb := ⟨exH, [exB, exA]⟩
theorem cmp_ex : cmpT ⟨#[49, 48]⟩ ⟨#[48]⟩ = 1 := by kernel_rfl
theorem cmp59_E : DPure Tryz.prog 59 [strV ⟨#[49, 48]⟩, strV ⟨#[48]⟩] (int1 1) := by
  have := cmp59_D ⟨#[49, 48]⟩ ⟨#[48]⟩ (by decide) (by decide)
  rw [cmp_ex] at this
  exact this
def chO : List (Nat × DObj) := [(0, ⟨104, 1, [.arr 1 1]⟩), (1, ⟨105, 1, [.clo (.func 61) [] [.ref 2 0, .ref 3 0]]⟩), (2, ⟨3, 1, [int1 (-1)]⟩), (3, ⟨3, 1, [int1 0]⟩)]
set_option maxRecDepth 20000 in
set_option maxHeartbeats 1000000 in
theorem cmp63_K {K : DV → Sto → Prop} (hK : K (int1 (-1)) (.of chO 4)) : SCall Tryz.prog 63 [strs exB, strs exA, .ref 0 0] (.of chO 4) K := by
  refine SCall.run Tryz.func63 rfl (Nat.le_of_ble_eq_true rfl) (by kernel_rfl) ?_
  repeat' (first | with_reducible rfl | ((conv => whnf); first | refine And.intro ?_ ?_ | (intro h; first | with_reducible exact tf_no h | with_reducible exact ft_no h | exact Bool.noConfusion h | with_reducible exact h | (have ht : true = true := h; clear ht h) | skip) | ((with_reducible refine SCall.mark ?_); first | refine SCall.run Tryz.func61 rfl (Nat.le_of_ble_eq_true rfl) (by kernel_rfl) ?_ | refine SCall.data (cmp59_E) rfl rfl ?_ | refine SCall.scal (cmp59_E) rfl rfl ?_) | ((with_reducible refine PCall.mark ?_); first | refine PCall.mk (cmp59_E) rfl rfl ?_) | ((with_reducible refine GCall.mark ?_); first | refine GCall.data (fun _ => cmp59_E) rfl rfl ?_ | refine GCall.scal (fun _ => cmp59_E) rfl rfl ?_) | ((with_reducible refine MCall.mark ?_); first | refine MCall.data (fun _ => cmp59_E) rfl rfl ?_ | refine MCall.plain (PCall.mk (cmp59_E) rfl rfl ?_)) | ((with_reducible refine Tri.mark ?_); first | refine Tri.rounds 2 (by kernel_rfl) ?_) | ((with_reducible refine ECall.mark ?_); first | refine ECall.only ?_ (fun h => nomatch h) | refine ECall.only ?_ ?_) | ((with_reducible refine Drawn.mark ?_); first | refine Drawn.quiet (by kernel_rfl) ?_) | refine dloadE_go ?_ | refine dcell_ok rfl ?_ | refine AppC.new ?_))
  all_goals first | (with_reducible refine enters_mark ?_; kernel_rfl) | (with_reducible refine boolT_mark ?_; kernel_rfl) | rfl | trivial | assumption | exact Nat.le_of_ble_eq_true rfl | (show entersB _ _ = true; kernel_rfl) | exact DW.same _ rfl | exact DW.ref _ _ _ rfl | exact DW.arr _ _ _ rfl | refine DW.int ?_ | refine dvb ?_ | refine dvi ?_ | exact OW.cells rfl rfl (DWl.same rfl) | exact Nat.zero_le _ | omega | skip
  all_goals repeat' (first | refine OW.cells rfl rfl ?_ | exact DW.nilArr _ rfl | refine DWl.cons ?_ ?_ | exact DWl.nil | exact DW.same _ rfl | exact DW.ref _ _ _ rfl | exact DW.arr _ _ _ rfl | exact DW.sub _ _ _ _ rfl | exact DW.mo _ _ rfl | exact DW.nilLst _ | refine DW.aggl ?_ | refine DW.tupl ?_ | refine DW.clol ?_ ?_)
  all_goals try ((conv => whnf); with_reducible first | refine Round.mark ?_ | refine Tells.mark ?_ | refine Retold.mark ?_)
  all_goals try first | (show (_ : Bool) = _; simp_all; done) | (show (_ : Int) < _; simp at *; omega) | (show (_ : Int) ≤ _; simp at *; omega) | (show (_ : Nat) < _; simp at *; omega) | (show (_ : Nat) ≤ _; simp at *; omega)
theorem cmp63_S : SCall Tryz.prog 63 [strs exB, strs exA, .ref 0 0] (.of chO 4) fun r' s' => r' = int1 (-1) ∧ s' = .of chO 4 := cmp63_K ⟨rfl, rfl⟩
set_option maxRecDepth 20000 in
set_option maxHeartbeats 2000000 in
theorem sort62_K {K : DV → Sto → Prop} (hK : K (.tup []) (.of (chO ++ [(4, ⟨22, 1, rowsC [exB, exA]⟩)]) 5)) : SCall Tryz.prog 62 [.arr 4 2, .clo (.func 63) [] [.ref 0 0]] (.of (chO ++ [(4, ⟨22, 1, rowsC [exA, exB]⟩)]) 5) K := by
  refine SCall.retell (SCall.run Tryz.func62 rfl (Nat.le_of_ble_eq_true rfl) (by kernel_rfl) ?_)
  repeat' (first | with_reducible rfl | ((conv => whnf); first | refine And.intro ?_ ?_ | (intro h; first | with_reducible exact tf_no h | with_reducible exact ft_no h | exact Bool.noConfusion h | with_reducible exact h | (have ht : true = true := h; clear ht h) | skip) | ((with_reducible refine SCall.mark ?_); first | refine SCall.run Tryz.func94 rfl (Nat.le_of_ble_eq_true rfl) (by kernel_rfl) ?_ | refine SCall.run Tryz.func122 rfl (Nat.le_of_ble_eq_true rfl) (by kernel_rfl) ?_ | refine SCall.at [0, 1, 2, 3] (fun _ => chO) (fun _ => int1 (-1)) 0 cmp63_S (by kernel_rfl) ?_ ?_ (DW.same _ rfl) ?_ ?_) | ((with_reducible refine GCall.mark ?_); first | refine GCall.split (fun _ => SCall.at [0, 1, 2, 3] (fun _ => chO) (fun _ => int1 (-1)) 0 cmp63_S (by kernel_rfl) ?_ ?_ (DW.same _ rfl) ?_ ?_) (fun hg => absurd hg (by decide))) | ((with_reducible refine Tri.mark ?_); first | refine Tri.rounds 3 (by kernel_rfl) ?_ | (refine Tri.treeX [4] (MX.mv 0 0 (MX.mv 0 1 (MX.mv 0 2 (MX.mv 0 3 (MX.mv 0 4 (MX.mv 0 5 (MX.mv 0 6 (MX.mv 0 7 (MX.mv 0 8 (MX.mv 0 10 (MX.mv 0 11 (MX.mv 0 12 (MX.two 1 9 (MX.mv 1 13 (MX.mv 0 14 (MX.mv 1 15 (MX.mv 1 16 (MX.mv 1 17 MX.done))))) 1 13 (MX.mv 1 9 (MX.mv 0 14 (MX.mv 1 15 (MX.mv 1 16 (MX.mv 1 17 MX.done)))))))))))))))))) ?_ (by kernel_rfl) ?_; rfl) | (refine Tri.treeX [0, 1, 2, 3] (MX.mv 0 0 (MX.mv 0 1 (MX.mv 0 2 (MX.mv 0 3 (MX.mv 0 4 (MX.mv 0 5 (MX.mv 0 6 (MX.mv 0 7 (MX.mv 0 8 (MX.mv 0 9 (MX.mv 0 10 (MX.mv 0 11 (MX.mv 0 12 (MX.mv 0 13 (MX.mv 2 14 (MX.mv 0 15 (MX.mv 0 16 MX.done))))))))))))))))) ?_ (by kernel_rfl) ?_; rfl)) | ((with_reducible refine ECall.mark ?_); first | refine ECall.alt (int1 0) ?_ ?_ | refine ECall.only ?_ (fun h => nomatch h) | refine ECall.only ?_ ?_) | ((with_reducible refine Drawn.mark ?_); first | (refine Drawn.tree ?_; refine Tri.treeX [4] (MX.mv 0 0 (MX.mv 0 1 (MX.mv 0 2 (MX.mv 0 3 (MX.mv 0 4 (MX.mv 0 5 (MX.mv 0 6 (MX.mv 0 7 (MX.mv 0 8 (MX.mv 0 10 (MX.mv 0 11 (MX.mv 0 12 (MX.two 1 9 (MX.mv 1 13 (MX.mv 0 14 (MX.mv 1 15 (MX.mv 1 16 (MX.mv 1 17 MX.done))))) 1 13 (MX.mv 1 9 (MX.mv 0 14 (MX.mv 1 15 (MX.mv 1 16 (MX.mv 1 17 MX.done)))))))))))))))))) ?_ (by kernel_rfl) ?_; rfl) | (refine Drawn.tree ?_; refine Tri.treeX [0, 1, 2, 3] (MX.mv 0 0 (MX.mv 0 1 (MX.mv 0 2 (MX.mv 0 3 (MX.mv 0 4 (MX.mv 0 5 (MX.mv 0 6 (MX.mv 0 7 (MX.mv 0 8 (MX.mv 0 9 (MX.mv 0 10 (MX.mv 0 11 (MX.mv 0 12 (MX.mv 0 13 (MX.mv 2 14 (MX.mv 0 15 (MX.mv 0 16 MX.done))))))))))))))))) ?_ (by kernel_rfl) ?_; rfl) | refine Drawn.quiet (by kernel_rfl) ?_) | refine dcell_ok rfl ?_ | refine AppC.new ?_))
  all_goals first | (with_reducible refine enters_mark ?_; kernel_rfl) | (with_reducible refine boolT_mark ?_; kernel_rfl) | rfl | trivial | assumption | exact Nat.le_of_ble_eq_true rfl | (show entersB _ _ = true; kernel_rfl) | exact DW.same _ rfl | exact DW.ref _ _ _ rfl | exact DW.arr _ _ _ rfl | refine DW.int ?_ | refine dvb ?_ | refine dvi ?_ | exact OW.cells rfl rfl (DWl.same rfl) | exact Nat.zero_le _ | omega | skip
  all_goals repeat' (first | refine OW.cells rfl rfl ?_ | exact DW.nilArr _ rfl | refine DWl.cons ?_ ?_ | exact DWl.nil | exact DW.same _ rfl | exact DW.ref _ _ _ rfl | exact DW.arr _ _ _ rfl | exact DW.sub _ _ _ _ rfl | exact DW.mo _ _ rfl | exact DW.nilLst _ | refine DW.aggl ?_ | refine DW.tupl ?_ | refine DW.clol ?_ ?_)
  all_goals try ((conv => whnf); with_reducible first | refine Round.mark ?_ | refine Tells.mark ?_ | refine Retold.mark ?_)
  all_goals try first | (show (_ : Bool) = _; simp_all; done) | (show (_ : Int) < _; simp at *; omega) | (show (_ : Int) ≤ _; simp at *; omega) | (show (_ : Nat) < _; simp at *; omega) | (show (_ : Nat) ≤ _; simp at *; omega)
  all_goals (conv => whnf)
  · refine Retold.list [] [] (.tup []) (chO ++ [(4, ⟨22, 1, rowsC [exB, exA]⟩)]) 5 (by kernel_rfl) ?_ ?_ hK
    iterate 2 · repeat' (first | exact DWl.same rfl | exact DW.same _ rfl | exact DW.ref _ _ _ rfl | exact DW.arr _ _ _ rfl | exact OW.cells rfl rfl (DWl.same rfl) | refine OW.cells rfl rfl ?_ | refine DWl.cons ?_ ?_ | exact DWl.nil | exact DW.nilArr _ rfl | exact DW.nilLst _ | refine DW.clol ?_ ?_ | refine DW.aggl ?_ | refine DW.tupl ?_ | refine DW.int ?_ | refine DW.bool ?_ | refine DW.str ?_ | refine DW.arrE rfl ?_ | ((conv => whnf); first | refine And.intro ?_ ?_ | trivial))
  · refine Retold.list [] [] (.tup []) (chO ++ [(4, ⟨22, 1, rowsC [exB, exA]⟩)]) 5 (by kernel_rfl) ?_ ?_ hK
    iterate 2 · repeat' (first | exact DWl.same rfl | exact DW.same _ rfl | exact DW.ref _ _ _ rfl | exact DW.arr _ _ _ rfl | exact OW.cells rfl rfl (DWl.same rfl) | refine OW.cells rfl rfl ?_ | refine DWl.cons ?_ ?_ | exact DWl.nil | exact DW.nilArr _ rfl | exact DW.nilLst _ | refine DW.clol ?_ ?_ | refine DW.aggl ?_ | refine DW.tupl ?_ | refine DW.int ?_ | refine DW.bool ?_ | refine DW.str ?_ | refine DW.arrE rfl ?_ | ((conv => whnf); first | refine And.intro ?_ ?_ | trivial))
theorem sort62_S : SCall Tryz.prog 62 [.arr 4 2, .clo (.func 63) [] [.ref 0 0]] (.of (chO ++ [(4, ⟨22, 1, rowsC [exA, exB]⟩)]) 5) fun r' s' => r' = .tup [] ∧ s' = .of (chO ++ [(4, ⟨22, 1, rowsC [exB, exA]⟩)]) 5 := sort62_K ⟨rfl, rfl⟩
end Go.Proofs.YtlchjjchgebfiaaGreatDoor
namespace Go.Proofs.YtlchjjchgebfiaaGreatDoor
open Go.RowKit Go.Dl
attribute [local irreducible] Tri SCall TSem ECall Drawn DFun QSem PSem PCall GCall MCall Round Weak dloadE OW DWl Tells Retold ESem
def intD (x : Int) : List DV := [int1 x]
def ints (l : List Int) : DV := .lst 1 (l.map intD)
theorem rows57_S (rows : List (List ByteArray)) (hn : rows.length ≤ 4096) (hr : ∀ r ∈ rows, 1 ≤ r.length ∧ r.length ≤ 4096) : SCall Tryz.prog 57 [rowsD rows] (.of [] 0) fun r' s' => r' = .arr 0 rows.length ∧ s' = .of [(0, ⟨22, 1, rowsC rows⟩)] 1 := rows57_K rows hn hr ⟨rfl, rfl⟩
theorem exRows : ∀ r ∈ [exA, exB], 1 ≤ r.length ∧ r.length ≤ 4096 := by
  intro r hr
  simp only [List.mem_cons, List.not_mem_nil, or_false] at hr
  rcases hr with rfl | rfl <;> exact ⟨by decide, by decide⟩
def chA (r : Nat) : List (Nat × DObj) := [(2, ⟨104, 1, [.arr 6 1]⟩), (6, ⟨105, 1, [.clo (.func 61) [] [.ref 4 0, .ref 3 0]]⟩), (4, ⟨3, 1, [int1 (-1)]⟩), (3, ⟨3, 1, [int1 0]⟩), (r, ⟨22, 1, rowsC [exB, exA]⟩)]
set_option maxRecDepth 20000 in
set_option maxHeartbeats 2000000 in
theorem sort26_E : DPure Tryz.prog 26 [tab exTb, ints [-1]] (.tup [tab exTs, int1 0]) := by
  have hc := clone56_D exH (by decide) (by decide)
  have hr := rows57_S [exA, exB] (by decide) exRows
  refine DFun.data (DFun.body Tryz.func26 rfl (by kernel_rfl) ?_)
  repeat' (first | with_reducible rfl | ((conv => whnf); first | refine And.intro ?_ ?_ | (intro h; first | with_reducible exact tf_no h | with_reducible exact ft_no h | exact Bool.noConfusion h | with_reducible exact h | (have ht : true = true := h; clear ht h) | skip) | ((with_reducible refine SCall.mark ?_); first | refine SCall.data (hc) rfl rfl ?_ | refine SCall.scal (hc) rfl rfl ?_ | refine SCall.at [] (fun m => [(m, ⟨22, 1, rowsC [exA, exB]⟩)]) (fun m => .arr m 2) 1 hr (by kernel_rfl) ?_ ?_ ?_ ?_ ?_ | refine SCall.at [2, 6, 4, 3, 7] (fun _ => chA 7) (fun _ => .tup []) 0 sort62_S (by kernel_rfl) ?_ (DWl.cons (DW.arr _ _ _ rfl) (DWl.cons (DW.clol DWl.nil (DWl.cons (DW.ref _ _ _ rfl) DWl.nil)) DWl.nil)) ?_ ?_ ?_ | refine SCall.at [2, 6, 4, 3, 8] (fun _ => chA 8) (fun _ => .tup []) 0 sort62_S (by kernel_rfl) ?_ (DWl.cons (DW.arr _ _ _ rfl) (DWl.cons (DW.clol DWl.nil (DWl.cons (DW.ref _ _ _ rfl) DWl.nil)) DWl.nil)) ?_ ?_ ?_) | ((with_reducible refine PCall.mark ?_); first | refine PCall.mk (hc) rfl rfl ?_) | ((with_reducible refine GCall.mark ?_); first | refine GCall.data (fun _ => hc) rfl rfl ?_ | refine GCall.scal (fun _ => hc) rfl rfl ?_) | ((with_reducible refine MCall.mark ?_); first | refine MCall.data (fun _ => hc) rfl rfl ?_ | refine MCall.plain (PCall.mk (hc) rfl rfl ?_)) | ((with_reducible refine Tri.mark ?_); first | refine Tri.rounds 2 (by kernel_rfl) ?_ | (refine Tri.treeX [7, 8] (MX.mv 0 0 (MX.mv 0 1 (MX.mv 0 3 (MX.mv 0 4 (MX.two 2 2 (MX.two 2 5 (MX.two 1 6 (MX.mv 1 7 (MX.mv 1 8 MX.done)) 1 7 (MX.mv 1 6 (MX.mv 1 8 MX.done))) 1 7 (MX.mv 2 5 (MX.mv 1 6 (MX.mv 1 8 MX.done)))) 1 7 (MX.mv 2 2 (MX.mv 2 5 (MX.mv 1 6 (MX.mv 1 8 MX.done))))))))) ?_ (by kernel_rfl) ?_; rfl)) | ((with_reducible refine ECall.mark ?_); first | refine ECall.alt (int1 0) ?_ ?_ | refine ECall.only ?_ (fun h => nomatch h) | refine ECall.only ?_ ?_) | ((with_reducible refine Drawn.mark ?_); first | (refine Drawn.tree ?_; refine Tri.treeX [7, 8] (MX.mv 0 0 (MX.mv 0 1 (MX.mv 0 3 (MX.mv 0 4 (MX.two 2 2 (MX.two 2 5 (MX.two 1 6 (MX.mv 1 7 (MX.mv 1 8 MX.done)) 1 7 (MX.mv 1 6 (MX.mv 1 8 MX.done))) 1 7 (MX.mv 2 5 (MX.mv 1 6 (MX.mv 1 8 MX.done)))) 1 7 (MX.mv 2 2 (MX.mv 2 5 (MX.mv 1 6 (MX.mv 1 8 MX.done))))))))) ?_ (by kernel_rfl) ?_; rfl) | refine Drawn.quiet (by kernel_rfl) ?_) | refine dloadE_go ?_ | refine dcell_ok rfl ?_ | refine AppC.new ?_))
  all_goals first | (with_reducible refine enters_mark ?_; kernel_rfl) | (with_reducible refine boolT_mark ?_; kernel_rfl) | rfl | trivial | assumption | exact Nat.le_of_ble_eq_true rfl | (show entersB _ _ = true; kernel_rfl) | exact DW.same _ rfl | exact DW.ref _ _ _ rfl | exact DW.arr _ _ _ rfl | refine DW.int ?_ | refine dvb ?_ | refine dvi ?_ | exact OW.cells rfl rfl (DWl.same rfl) | exact Nat.zero_le _ | omega | skip
  all_goals repeat' (first | refine OW.cells rfl rfl ?_ | exact DW.nilArr _ rfl | refine DWl.cons ?_ ?_ | exact DWl.nil | exact DW.same _ rfl | exact DW.ref _ _ _ rfl | exact DW.arr _ _ _ rfl | exact DW.sub _ _ _ _ rfl | exact DW.mo _ _ rfl | exact DW.nilLst _ | refine DW.aggl ?_ | refine DW.tupl ?_ | refine DW.clol ?_ ?_)
  all_goals try ((conv => whnf); with_reducible first | refine Round.mark ?_ | refine Tells.mark ?_ | refine Retold.mark ?_)
  all_goals try first | (show (_ : Bool) = _; simp_all; done) | (show (_ : Int) < _; simp at *; omega) | (show (_ : Int) ≤ _; simp at *; omega) | (show (_ : Nat) < _; simp at *; omega) | (show (_ : Nat) ≤ _; simp at *; omega)
  all_goals (conv => whnf)
  all_goals try exact Tells.mk (DW.tupl (DWl.cons (DW.aggl (DWl.cons (DW.same _ rfl) (DWl.cons (DW.pubM (l := [exB, exA]) (f := rowD) rfl rfl rfl rfl rowRow (rowsC_eq _)) DWl.nil))) (DWl.cons (DW.same _ rfl) DWl.nil)))
end Go.Proofs.YtlchjjchgebfiaaGreatDoor
namespace Go.Proofs.YtlchjjchgebfiaaGreatDoor
open Go.RowKit Go.Dl
attribute [local irreducible] Tri SCall TSem ECall Drawn DFun QSem PSem PCall GCall MCall Round Weak dloadE OW DWl Tells Retold ESem
def exT : ByteArray := ⟨#[97, 44, 98, 10, 49, 10]⟩
def exD : ByteArray := ⟨#[110, 111, 100, 101, 32, 32, 101, 115, 116, 10, 45, 45, 45, 45, 32, 32, 45, 45, 45, 10, 32, 32, 32, 48, 32, 32, 32, 45, 53, 10, 32, 32, 49, 48, 32, 32, 32, 32, 55, 10]⟩
def exW : ByteArray := ⟨#[110, 111, 100, 101, 44, 101, 115, 116, 10, 48, 44, 45, 53, 10, 49, 48, 44, 55, 10]⟩
theorem read_ex : readT exT = ⟨⟨[], []⟩, 2, 31⟩ := by kernel_rfl
theorem draw_ex : drawT exTb = exD := by kernel_rfl
theorem write_ex : textW exTb = exW := by kernel_rfl
theorem read17_E : DPure Tryz.prog 17 [strV exT] (.tup [tab ⟨[], []⟩, faultD 2 31]) := by
  have := read17_D exT (by decide)
  rw [read_ex] at this
  exact this
theorem tbl_ex : Tbl exTb := by
  refine ⟨by decide, by decide, fun r hr => ?_, fun l hl s hs => ?_⟩
  · have hr : r ∈ [exA, exB] := hr
    simp only [List.mem_cons, List.not_mem_nil, or_false] at hr
    rcases hr with rfl | rfl <;> rfl
  · have hl : l = exH ∨ l ∈ [exA, exB] := hl
    simp only [List.mem_cons, List.not_mem_nil, or_false] at hl
    rcases hl with rfl | rfl | rfl <;> simp only [exH, exA, exB, List.mem_cons, List.not_mem_nil, or_false] at hs <;> rcases hs with rfl | rfl <;> decide
theorem draw12_E : DPure Tryz.prog 12 [tab exTb] (strV exD) := by
  have := draw12_D exTb tbl_ex
  rw [draw_ex] at this
  exact this
def ascB (s : ByteArray) : Bool := s.data.toList.all fun b => decide (b.toNat < 128)
theorem asc_of {s : ByteArray} (h : ascB s = true) : Asc s := fun j b hb => by
  have := List.all_eq_true.1 h b (List.mem_of_getElem? hb)
  exact of_decide_eq_true this
theorem wr_ex : Wr exTb := by
  refine ⟨by decide, fun l hl => ?_⟩
  have hl : l = exH ∨ l ∈ [exA, exB] := hl
  simp only [List.mem_cons, List.not_mem_nil, or_false] at hl
  rcases hl with rfl | rfl | rfl <;> refine ⟨by decide, fun s hs => ?_⟩ <;> simp only [exH, exA, exB, List.mem_cons, List.not_mem_nil, or_false] at hs <;> rcases hs with rfl | rfl <;> exact ⟨by decide, asc_of (by decide)⟩
theorem write14_E : DPure Tryz.prog 14 [tab exTb] (strV exW) := by
  have := write14_D exTb wr_ex
  rw [write_ex] at this
  exact this
end Go.Proofs.YtlchjjchgebfiaaGreatDoor
namespace Go.Proofs.YtlchjjchgebfiaaGreatDoor
open Go.RowKit Go.Dl
attribute [local irreducible] Tri SCall TSem ECall Drawn DFun QSem PSem PCall GCall MCall Round Weak dloadE OW DWl Tells Retold ESem
theorem intRow {l : List Int} : ∀ r ∈ l.map intD, r.length = 1 ∧ r.all isData1 = true := by
  intro r hr
  obtain ⟨x, _, rfl⟩ := List.mem_map.1 hr
  exact ⟨rfl, rfl⟩
theorem k33 : eqTK Tryz.prog 33 = some [.int, .int] := by kernel_rfl
set_option maxRecDepth 20000 in
set_option maxHeartbeats 2000000 in
theorem awake10_D : DPure Tryz.prog 10 [] (bl true) := by
  have h1 := read17_E
  have h2 := draw12_E
  have h3 := write14_E
  have h4 := sort26_E
  refine DFun.data (DFun.body Tryz.func10 rfl (by kernel_rfl) ?_)
  repeat' (first | with_reducible rfl | ((conv => whnf); first | refine And.intro ?_ ?_ | (intro h; first | with_reducible exact tf_no h | with_reducible exact ft_no h | exact Bool.noConfusion h | with_reducible exact h | (have ht : true = true := h; clear ht h) | skip) | ((with_reducible refine DWl.mark ?_); repeat' (first | refine DWl.cons ?_ ?_ | exact DWl.nil | exact DW.same _ rfl | exact DW.ref _ _ _ rfl | exact DW.arr _ _ _ rfl | exact DW.sub _ _ _ _ rfl | exact DW.mo _ _ rfl | exact DW.nilLst _ | refine DW.aggl ?_ | refine DW.tupl ?_ | refine DW.clol ?_ ?_ | refine DW.int ?_ | refine DW.bool ?_ | refine DW.str ?_)) | ((with_reducible refine SCall.mark ?_); first | refine SCall.data (h1) rfl rfl ?_ | refine SCall.scal (h1) rfl rfl ?_ | refine SCall.data (h2) rfl rfl ?_ | refine SCall.scal (h2) rfl rfl ?_ | refine SCall.data (h3) rfl rfl ?_ | refine SCall.scal (h3) rfl rfl ?_ | refine SCall.pub (args1 := [.agg [.arr 0 2, .arr 3 2], .arr 7 1]) [1, 2] [(3, ⟨22, 1, rowsC [exA, exB]⟩)] ⟨⟨rfl, rfl, rfl, ?_⟩, trivial⟩ ?_ (SCall.pub (args1 := [tab exTb, ints [-1]]) [0, 3, 7] [(4, ⟨25, 2, tbD exTb⟩)] ⟨⟨rfl, rfl, rfl, ?_⟩, trivial⟩ ?_ (SCall.data h4 rfl rfl ?_))) | ((with_reducible refine PCall.mark ?_); first | refine PCall.mk (h1) rfl rfl ?_ | refine PCall.mk (h2) rfl rfl ?_ | refine PCall.mk (h3) rfl rfl ?_) | ((with_reducible refine GCall.mark ?_); first | refine GCall.data (fun _ => h1) rfl rfl ?_ | refine GCall.scal (fun _ => h1) rfl rfl ?_ | refine GCall.data (fun _ => h2) rfl rfl ?_ | refine GCall.scal (fun _ => h2) rfl rfl ?_ | refine GCall.data (fun _ => h3) rfl rfl ?_ | refine GCall.scal (fun _ => h3) rfl rfl ?_) | ((with_reducible refine MCall.mark ?_); first | refine MCall.data (fun _ => h1) rfl rfl ?_ | refine MCall.plain (PCall.mk (h1) rfl rfl ?_) | refine MCall.data (fun _ => h2) rfl rfl ?_ | refine MCall.plain (PCall.mk (h2) rfl rfl ?_) | refine MCall.data (fun _ => h3) rfl rfl ?_ | refine MCall.plain (PCall.mk (h3) rfl rfl ?_)) | ((with_reducible refine ex_mark ?_); first | refine dq_eql k33 ?_ rfl ?_ rfl rfl ?_ | refine dq_neq k33 ?_ rfl ?_ rfl rfl ?_) | ((with_reducible refine ECall.mark ?_); first | refine ECall.only ?_ (fun h => nomatch h) | refine ECall.only ?_ ?_) | ((with_reducible refine Drawn.mark ?_); first | refine Drawn.quiet (by kernel_rfl) ?_) | refine dloadE_go ?_ | refine dcell_ok rfl ?_ | refine AppC.new ?_))
  all_goals first | (with_reducible refine enters_mark ?_; kernel_rfl) | (with_reducible refine boolT_mark ?_; kernel_rfl) | rfl | trivial | assumption | exact Nat.le_of_ble_eq_true rfl | (show entersB _ _ = true; kernel_rfl) | exact DW.same _ rfl | exact DW.ref _ _ _ rfl | exact DW.arr _ _ _ rfl | refine DW.int ?_ | refine dvb ?_ | refine dvi ?_ | exact OW.cells rfl rfl (DWl.same rfl) | exact Nat.zero_le _ | omega | skip
  all_goals repeat' (first | refine OW.cells rfl rfl ?_ | exact DW.nilArr _ rfl | refine DWl.cons ?_ ?_ | exact DWl.nil | exact DW.same _ rfl | exact DW.ref _ _ _ rfl | exact DW.arr _ _ _ rfl | exact DW.sub _ _ _ _ rfl | exact DW.mo _ _ rfl | exact DW.nilLst _ | refine DW.aggl ?_ | refine DW.tupl ?_ | refine DW.clol ?_ ?_)
  all_goals try ((conv => whnf); with_reducible first | refine Round.mark ?_ | refine Tells.mark ?_ | refine Retold.mark ?_)
  all_goals try first | (show (_ : Bool) = _; simp_all; done) | (show (_ : Int) < _; simp at *; omega) | (show (_ : Int) ≤ _; simp at *; omega) | (show (_ : Nat) < _; simp at *; omega) | (show (_ : Nat) ≤ _; simp at *; omega)
  · exact DW.pubG (l := exA) rfl rfl rfl rfl rfl strRow rfl
  · exact DW.pubG (l := exB) rfl rfl rfl rfl rfl strRow rfl
  · exact DW.pubG (l := exH) rfl rfl rfl rfl rfl strRow rfl
  · exact DW.pubG (l := [exA, exB]) rfl rfl rfl rfl rfl rowRow rfl
  · exact DW.pubG (l := exH) rfl rfl rfl rfl rfl strRow rfl
  · exact DW.pubG (l := [exA, exB]) rfl rfl rfl rfl rfl rowRow rfl
  · exact DW.pubG (l := [(-1 : Int)]) (f := intD) rfl rfl rfl rfl rfl intRow rfl
  · conv => whnf
    refine Tells.mk (DW.bool ?_)
    kernel_rfl
end Go.Proofs.YtlchjjchgebfiaaGreatDoor
namespace Go.Proofs.YtlchjjchgebfiaaGreatDoor
open Go.RowKit Go.Dl
attribute [local irreducible] Tri SCall TSem ECall Drawn DFun QSem PSem PCall GCall MCall Round Weak dloadE OW DWl Tells IntKind.wrap Retold ESem
theorem u8_int (b : UInt8) (n : Nat) (hn : n < 256) : (((b.toNat : Nat) : Int) == (n : Int)) = (b == UInt8.ofNat n) := by
  rw [Bool.eq_iff_iff, beq_iff_eq, beq_iff_eq]
  constructor
  · intro h
    have h : b.toNat = n := by omega
    exact UInt8.toNat_inj.1 (by rw [h, UInt8.toNat_ofNat']; omega)
  · intro h
    subst h
    rw [UInt8.toNat_ofNat']; omega
theorem ext_list (s : ByteArray) (a : Nat) : (s.extract a s.size).data.toList = s.data.toList.drop a := by
  rw [ByteArray.data_extract, Array.toList_extract, List.extract_eq_take_drop]
  exact List.take_of_length_le (by rw [List.length_drop, sz_len]; exact Nat.le_refl _)
attribute [local irreducible] byteAt
end Go.Proofs.YtlchjjchgebfiaaGreatDoor
namespace Go.Proofs.YtlchjjchgebfiaaGreatDoor
open Go.RowKit Go.Dl
attribute [local irreducible] Tri SCall TSem ECall Drawn DFun QSem PSem PCall GCall MCall Round Weak dloadE OW DWl Tells IntKind.wrap Retold ESem
theorem ba_ne (a : ByteArray) : (a != a) = false := by
  show (!(a == a)) = false
  rw [ba_eq.2 rfl]; rfl
def sameSt (l : List ByteArray) (i : Nat) : St := ⟨0, tmOf [(0, strs l), (1, strs l), (4, bl false), (5, int1 i)], .of [] 0⟩
set_option maxRecDepth 20000 in
theorem same47_D (l : List ByteArray) (hl : l.length ≤ 140737488355328) : DPure Tryz.prog 47 [strs l, strs l] (bl true) := by
  refine DFun.body Tryz.func47 rfl (by kernel_rfl) ?_
  repeat' (first | with_reducible rfl | ((conv => whnf); first | refine And.intro ?_ ?_ | (intro h; first | with_reducible exact tf_no h | with_reducible exact ft_no h | exact Bool.noConfusion h | with_reducible exact h | (have ht : true = true := h; clear ht h) | skip) | ((with_reducible refine ECall.mark ?_); first | refine ECall.only ?_ (fun h => nomatch h) | refine ECall.only ?_ ?_) | ((with_reducible refine Drawn.mark ?_); first | refine Drawn.quiet (by kernel_rfl) ?_) | refine dcell_ok rfl ?_ | refine AppC.new ?_))
  all_goals first | (with_reducible refine enters_mark ?_; kernel_rfl) | (with_reducible refine boolT_mark ?_; kernel_rfl) | rfl | trivial | assumption | exact Nat.le_of_ble_eq_true rfl | (show entersB _ _ = true; kernel_rfl) | exact DW.same _ rfl | exact DW.ref _ _ _ rfl | exact DW.arr _ _ _ rfl | refine DW.int ?_ | refine dvb ?_ | refine dvi ?_ | exact OW.cells rfl rfl (DWl.same rfl) | exact Nat.zero_le _ | omega | skip
  all_goals repeat' (first | refine OW.cells rfl rfl ?_ | exact DW.nilArr _ rfl | refine DWl.cons ?_ ?_ | exact DWl.nil | exact DW.same _ rfl | exact DW.ref _ _ _ rfl | exact DW.arr _ _ _ rfl | exact DW.sub _ _ _ _ rfl | exact DW.mo _ _ rfl | exact DW.nilLst _ | refine DW.aggl ?_ | refine DW.tupl ?_ | refine DW.clol ?_ ?_)
  all_goals try ((conv => whnf); with_reducible first | refine Round.mark ?_ | refine Tells.mark ?_ | refine Retold.mark ?_)
  all_goals try first | (show (_ : Bool) = _; simp_all; done) | (show (_ : Int) < _; simp at *; omega) | (show (_ : Int) ≤ _; simp at *; omega) | (show (_ : Nat) < _; simp at *; omega) | (show (_ : Nat) ≤ _; simp at *; omega)
  · conv => whnf
    refine Tri.loop (sameSt l) (fun i => i ≤ l.length) (fun i => l.length - i) 0 (by kernel_rfl) (Weak.list [] [] (by kernel_rfl) ?_ ?_) (Nat.zero_le _) ?_
    iterate 2 · repeat' (first | rfl | exact DW.same _ rfl | exact DW.ref _ _ _ rfl | exact DW.arr _ _ _ rfl | exact OW.cells rfl rfl (DWl.same rfl) | refine OW.cells rfl rfl ?_ | refine DWl.cons ?_ ?_ | exact DWl.nil | exact DW.nilArr _ rfl | exact DW.nilLst _ | refine DW.clol ?_ ?_ | refine DW.aggl ?_ | refine DW.tupl ?_ | refine DW.int ?_ | refine DW.bool ?_ | refine DW.str ?_ | refine DW.arrE rfl ?_ | ((conv => whnf); first | refine And.intro ?_ ?_ | trivial))
    intro i hi
    show dcode _ _ _ _ (sameSt l i) _
    repeat' (first | with_reducible rfl | ((conv => whnf); first | refine And.intro ?_ ?_ | (intro h; first | with_reducible exact tf_no h | with_reducible exact ft_no h | exact Bool.noConfusion h | with_reducible exact h | (have ht : true = true := h; clear ht h) | skip) | ((with_reducible refine ECall.mark ?_); first | refine ECall.only ?_ (fun h => nomatch h) | refine ECall.only ?_ ?_) | ((with_reducible refine Drawn.mark ?_); first | refine Drawn.quiet (by kernel_rfl) ?_) | refine dloadE_map ((⟨#[]⟩ : ByteArray)) ?_ ?_ | refine dcell_ok rfl ?_ | refine AppC.new ?_))
    all_goals try ((conv => whnf); with_reducible refine Round.mark ?_)
    all_goals try first | ((with_reducible show Option.isSome (slElem _ _) = true); kernel_rfl) | ((with_reducible show slElem _ _ = some _); kernel_rfl) | ((with_reducible refine enters_mark ?_); kernel_rfl) | (with_reducible assumption) | ((with_reducible show List.all _ DV.one = true); rfl) | ((with_reducible show (_ : Nat) = _); rfl) | ((with_reducible show (_ == true) = true); simpa using h) | ((with_reducible show (_ : Nat) ≤ _); exact Nat.le_of_ble_eq_true rfl) | ((with_reducible show (_ : Int) ≤ _); first | omega | decide) | ((with_reducible show (_ : Int) < _); first | omega | decide) | ((with_reducible show (_ : Nat) < _); omega) | ((with_reducible show (_ : Nat) ≤ _); omega)
    · exact of_decide_eq_true h
    · exact lt_of_test h
    · exact of_decide_eq_true h
    · exact lt_of_test h
    · rw [ba_ne] at h; cases h
    · rename_i h0
      have hlt := lt_of_test h0
      refine Round.go (fun _ => i + 1) (by show i + 1 ≤ _; omega) (by show l.length - (i + 1) < l.length - i; omega) (Weak.list [] [] (by kernel_rfl) ?_ ?_)
      iterate 2 · repeat' (first | exact wsucc hlt (by omega) | exact DW.same _ rfl | exact DW.ref _ _ _ rfl | exact DW.arr _ _ _ rfl | exact OW.cells rfl rfl (DWl.same rfl) | refine OW.cells rfl rfl ?_ | refine DWl.cons ?_ ?_ | exact DWl.nil | exact DW.nilArr _ rfl | exact DW.nilLst _ | refine DW.clol ?_ ?_ | refine DW.aggl ?_ | refine DW.tupl ?_ | refine DW.int ?_ | refine DW.bool ?_ | refine DW.str ?_ | refine DW.arrE rfl ?_ | ((conv => whnf); first | refine And.intro ?_ ?_ | trivial))
    · repeat' (first | with_reducible rfl | ((conv => whnf); first | refine And.intro ?_ ?_ | (intro h; first | with_reducible exact tf_no h | with_reducible exact ft_no h | exact Bool.noConfusion h | with_reducible exact h | (have ht : true = true := h; clear ht h) | skip) | ((with_reducible refine ECall.mark ?_); first | refine ECall.only ?_ (fun h => nomatch h) | refine ECall.only ?_ ?_) | ((with_reducible refine Drawn.mark ?_); first | refine Drawn.quiet (by kernel_rfl) ?_) | refine dcell_ok rfl ?_ | refine AppC.new ?_))
      all_goals first | (with_reducible refine enters_mark ?_; kernel_rfl) | (with_reducible refine boolT_mark ?_; kernel_rfl) | rfl | trivial | assumption | exact Nat.le_of_ble_eq_true rfl | (show entersB _ _ = true; kernel_rfl) | exact DW.same _ rfl | exact DW.ref _ _ _ rfl | exact DW.arr _ _ _ rfl | refine DW.int ?_ | refine dvb ?_ | refine dvi ?_ | exact OW.cells rfl rfl (DWl.same rfl) | exact Nat.zero_le _ | omega | skip
      all_goals repeat' (first | refine OW.cells rfl rfl ?_ | exact DW.nilArr _ rfl | refine DWl.cons ?_ ?_ | exact DWl.nil | exact DW.same _ rfl | exact DW.ref _ _ _ rfl | exact DW.arr _ _ _ rfl | exact DW.sub _ _ _ _ rfl | exact DW.mo _ _ rfl | exact DW.nilLst _ | refine DW.aggl ?_ | refine DW.tupl ?_ | refine DW.clol ?_ ?_)
      all_goals try ((conv => whnf); with_reducible first | refine Round.mark ?_ | refine Tells.mark ?_ | refine Retold.mark ?_)
      all_goals try first | (show (_ : Bool) = _; simp_all; done) | (show (_ : Int) < _; simp at *; omega) | (show (_ : Int) ≤ _; simp at *; omega) | (show (_ : Nat) < _; simp at *; omega) | (show (_ : Nat) ≤ _; simp at *; omega)
theorem sr_1 {i : Nat} {l : List (List ByteArray)} (h : decide ((i : Int) < ((l.map rowD).length : Nat)) = true) : i + 1 ≤ l.length := lt_of_test h
theorem sr_2 {i : Nat} {l : List (List ByteArray)} (h : decide ((i : Int) < ((l.map rowD).length : Nat)) = true) : l.length - (i + 1) < l.length - i := by
  have := lt_of_test h; omega
theorem sr_3 {i : Nat} {t : Tb} (h : decide ((i : Int) < ((t.rows.map rowD).length : Nat)) = true) (ht : SmlT t) : IntKind.i64.wrap ((i : Int) + 1) = ((i + 1 : Nat) : Int) := by
  have h1 := lt_of_test h
  have := ht.2.1
  exact wsucc h1 (by omega)
def sameTSt (t : Tb) (i : Nat) : St := ⟨0, tmOf [(2, .ref 0 0), (3, .ref 1 0), (4, bl false), (5, int1 i)], .of [(0, ⟨25, 2, tbD t⟩), (1, ⟨25, 2, tbD t⟩)] 2⟩
set_option maxRecDepth 20000 in
theorem same16_D (t : Tb) (ht : SmlT t) : DPure Tryz.prog 16 [tab t, tab t] (bl true) := by
  have hh : ∀ l : List ByteArray, Sml l → l.length ≤ 140737488355328 := fun l h => by have := h.1; omega
  refine DFun.body Tryz.func16 rfl (by kernel_rfl) ?_
  repeat' (first | with_reducible rfl | ((conv => whnf); first | refine And.intro ?_ ?_ | (intro h; first | with_reducible exact tf_no h | with_reducible exact ft_no h | exact Bool.noConfusion h | with_reducible exact h | (have ht : true = true := h; clear ht h) | skip) | ((with_reducible refine SCall.mark ?_); first | refine SCall.data (same47_D _ (hh _ ht.1)) rfl rfl ?_ | refine SCall.scal (same47_D _ (hh _ ht.1)) rfl rfl ?_) | ((with_reducible refine PCall.mark ?_); first | refine PCall.mk (same47_D _ (hh _ ht.1)) rfl rfl ?_) | ((with_reducible refine GCall.mark ?_); first | refine GCall.data (fun _ => same47_D _ (hh _ ht.1)) rfl rfl ?_ | refine GCall.scal (fun _ => same47_D _ (hh _ ht.1)) rfl rfl ?_) | ((with_reducible refine MCall.mark ?_); first | refine MCall.data (fun _ => same47_D _ (hh _ ht.1)) rfl rfl ?_ | refine MCall.plain (PCall.mk (same47_D _ (hh _ ht.1)) rfl rfl ?_)) | ((with_reducible refine ECall.mark ?_); first | refine ECall.only ?_ (fun h => nomatch h) | refine ECall.only ?_ ?_) | ((with_reducible refine Drawn.mark ?_); first | refine Drawn.quiet (by kernel_rfl) ?_) | refine dcell_ok rfl ?_ | refine AppC.new ?_))
  all_goals first | (with_reducible refine enters_mark ?_; kernel_rfl) | (with_reducible refine boolT_mark ?_; kernel_rfl) | rfl | trivial | assumption | exact Nat.le_of_ble_eq_true rfl | (show entersB _ _ = true; kernel_rfl) | exact DW.same _ rfl | exact DW.ref _ _ _ rfl | exact DW.arr _ _ _ rfl | refine DW.int ?_ | refine dvb ?_ | refine dvi ?_ | exact OW.cells rfl rfl (DWl.same rfl) | exact Nat.zero_le _ | omega | skip
  all_goals repeat' (first | refine OW.cells rfl rfl ?_ | exact DW.nilArr _ rfl | refine DWl.cons ?_ ?_ | exact DWl.nil | exact DW.same _ rfl | exact DW.ref _ _ _ rfl | exact DW.arr _ _ _ rfl | exact DW.sub _ _ _ _ rfl | exact DW.mo _ _ rfl | exact DW.nilLst _ | refine DW.aggl ?_ | refine DW.tupl ?_ | refine DW.clol ?_ ?_)
  all_goals try ((conv => whnf); with_reducible first | refine Round.mark ?_ | refine Tells.mark ?_ | refine Retold.mark ?_)
  all_goals try first | (show (_ : Bool) = _; simp_all; done) | (show (_ : Int) < _; simp at *; omega) | (show (_ : Int) ≤ _; simp at *; omega) | (show (_ : Nat) < _; simp at *; omega) | (show (_ : Nat) ≤ _; simp at *; omega)
  conv => whnf
  refine Tri.loop (sameTSt t) (fun i => i ≤ t.rows.length) (fun i => t.rows.length - i) 0 (by kernel_rfl) (Weak.list [(0, some 0), (1, some 1)] [] (by kernel_rfl) ?_ ?_) (Nat.zero_le _) ?_
  iterate 2 · repeat' (first | rfl | exact DW.same _ rfl | exact DW.ref _ _ _ rfl | exact DW.arr _ _ _ rfl | exact OW.cells rfl rfl (DWl.same rfl) | refine OW.cells rfl rfl ?_ | refine DWl.cons ?_ ?_ | exact DWl.nil | exact DW.nilArr _ rfl | exact DW.nilLst _ | refine DW.clol ?_ ?_ | refine DW.aggl ?_ | refine DW.tupl ?_ | refine DW.int ?_ | refine DW.bool ?_ | refine DW.str ?_ | refine DW.arrE rfl ?_ | ((conv => whnf); first | refine And.intro ?_ ?_ | trivial))
  intro i hi
  show dcode _ _ _ _ (sameTSt t i) _
  have hr := fun (h : i < t.rows.length) => hh (t.rows.getD (i : Int).toNat []) (ht.2.2 _ (mem_at h))
  repeat' (first | with_reducible rfl | ((conv => whnf); first | refine And.intro ?_ ?_ | (intro h; first | with_reducible exact tf_no h | with_reducible exact ft_no h | exact Bool.noConfusion h | with_reducible exact h | (have ht : true = true := h; clear ht h) | skip) | ((with_reducible refine SCall.mark ?_); first | refine SCall.data (same47_D _ (hr ?_)) rfl rfl ?_ | refine SCall.scal (same47_D _ (hr ?_)) rfl rfl ?_) | ((with_reducible refine PCall.mark ?_); first | refine PCall.mk (same47_D _ (hr ?_)) rfl rfl ?_) | ((with_reducible refine GCall.mark ?_); first | refine GCall.data (fun _ => same47_D _ (hr ?_)) rfl rfl ?_ | refine GCall.scal (fun _ => same47_D _ (hr ?_)) rfl rfl ?_) | ((with_reducible refine MCall.mark ?_); first | refine MCall.data (fun _ => same47_D _ (hr ?_)) rfl rfl ?_ | refine MCall.plain (PCall.mk (same47_D _ (hr ?_)) rfl rfl ?_)) | ((with_reducible refine Tri.mark ?_); first | (refine Tri.treeX [0, 1] (MX.mv 0 0 (MX.mv 0 2 (MX.mv 0 5 (MX.mv 0 7 (MX.two 1 1 (MX.two 1 3 (MX.two 1 4 (MX.mv 1 6 (MX.mv 1 8 (MX.mv 1 9 (MX.mv 2 10 (MX.mv 0 11 MX.done))))) 1 6 (MX.two 1 4 (MX.mv 1 8 (MX.mv 1 9 (MX.mv 2 10 (MX.mv 0 11 MX.done)))) 1 8 (MX.two 1 4 (MX.mv 1 9 (MX.mv 2 10 (MX.mv 0 11 MX.done))) 1 9 (MX.mv 1 4 (MX.mv 2 10 (MX.mv 0 11 MX.done)))))) 1 6 (MX.two 1 3 (MX.two 1 4 (MX.mv 1 8 (MX.mv 1 9 (MX.mv 2 10 (MX.mv 0 11 MX.done)))) 1 8 (MX.two 1 4 (MX.mv 1 9 (MX.mv 2 10 (MX.mv 0 11 MX.done))) 1 9 (MX.mv 1 4 (MX.mv 2 10 (MX.mv 0 11 MX.done))))) 1 8 (MX.two 1 3 (MX.two 1 4 (MX.mv 1 9 (MX.mv 2 10 (MX.mv 0 11 MX.done))) 1 9 (MX.mv 1 4 (MX.mv 2 10 (MX.mv 0 11 MX.done)))) 1 9 (MX.mv 1 3 (MX.mv 1 4 (MX.mv 2 10 (MX.mv 0 11 MX.done))))))) 1 6 (MX.two 1 1 (MX.two 1 3 (MX.two 1 4 (MX.mv 1 8 (MX.mv 1 9 (MX.mv 2 10 (MX.mv 0 11 MX.done)))) 1 8 (MX.two 1 4 (MX.mv 1 9 (MX.mv 2 10 (MX.mv 0 11 MX.done))) 1 9 (MX.mv 1 4 (MX.mv 2 10 (MX.mv 0 11 MX.done))))) 1 8 (MX.two 1 3 (MX.two 1 4 (MX.mv 1 9 (MX.mv 2 10 (MX.mv 0 11 MX.done))) 1 9 (MX.mv 1 4 (MX.mv 2 10 (MX.mv 0 11 MX.done)))) 1 9 (MX.mv 1 3 (MX.mv 1 4 (MX.mv 2 10 (MX.mv 0 11 MX.done)))))) 1 8 (MX.two 1 1 (MX.two 1 3 (MX.two 1 4 (MX.mv 1 9 (MX.mv 2 10 (MX.mv 0 11 MX.done))) 1 9 (MX.mv 1 4 (MX.mv 2 10 (MX.mv 0 11 MX.done)))) 1 9 (MX.mv 1 3 (MX.mv 1 4 (MX.mv 2 10 (MX.mv 0 11 MX.done))))) 1 9 (MX.mv 1 1 (MX.mv 1 3 (MX.mv 1 4 (MX.mv 2 10 (MX.mv 0 11 MX.done)))))))))))) ?_ (by kernel_rfl) ?_; rfl)) | ((with_reducible refine ECall.mark ?_); first | refine ECall.only ?_ (fun h => nomatch h) | refine ECall.only ?_ ?_) | ((with_reducible refine Drawn.mark ?_); first | (refine Drawn.tree ?_; refine Tri.treeX [0, 1] (MX.mv 0 0 (MX.mv 0 2 (MX.mv 0 5 (MX.mv 0 7 (MX.two 1 1 (MX.two 1 3 (MX.two 1 4 (MX.mv 1 6 (MX.mv 1 8 (MX.mv 1 9 (MX.mv 2 10 (MX.mv 0 11 MX.done))))) 1 6 (MX.two 1 4 (MX.mv 1 8 (MX.mv 1 9 (MX.mv 2 10 (MX.mv 0 11 MX.done)))) 1 8 (MX.two 1 4 (MX.mv 1 9 (MX.mv 2 10 (MX.mv 0 11 MX.done))) 1 9 (MX.mv 1 4 (MX.mv 2 10 (MX.mv 0 11 MX.done)))))) 1 6 (MX.two 1 3 (MX.two 1 4 (MX.mv 1 8 (MX.mv 1 9 (MX.mv 2 10 (MX.mv 0 11 MX.done)))) 1 8 (MX.two 1 4 (MX.mv 1 9 (MX.mv 2 10 (MX.mv 0 11 MX.done))) 1 9 (MX.mv 1 4 (MX.mv 2 10 (MX.mv 0 11 MX.done))))) 1 8 (MX.two 1 3 (MX.two 1 4 (MX.mv 1 9 (MX.mv 2 10 (MX.mv 0 11 MX.done))) 1 9 (MX.mv 1 4 (MX.mv 2 10 (MX.mv 0 11 MX.done)))) 1 9 (MX.mv 1 3 (MX.mv 1 4 (MX.mv 2 10 (MX.mv 0 11 MX.done))))))) 1 6 (MX.two 1 1 (MX.two 1 3 (MX.two 1 4 (MX.mv 1 8 (MX.mv 1 9 (MX.mv 2 10 (MX.mv 0 11 MX.done)))) 1 8 (MX.two 1 4 (MX.mv 1 9 (MX.mv 2 10 (MX.mv 0 11 MX.done))) 1 9 (MX.mv 1 4 (MX.mv 2 10 (MX.mv 0 11 MX.done))))) 1 8 (MX.two 1 3 (MX.two 1 4 (MX.mv 1 9 (MX.mv 2 10 (MX.mv 0 11 MX.done))) 1 9 (MX.mv 1 4 (MX.mv 2 10 (MX.mv 0 11 MX.done)))) 1 9 (MX.mv 1 3 (MX.mv 1 4 (MX.mv 2 10 (MX.mv 0 11 MX.done)))))) 1 8 (MX.two 1 1 (MX.two 1 3 (MX.two 1 4 (MX.mv 1 9 (MX.mv 2 10 (MX.mv 0 11 MX.done))) 1 9 (MX.mv 1 4 (MX.mv 2 10 (MX.mv 0 11 MX.done)))) 1 9 (MX.mv 1 3 (MX.mv 1 4 (MX.mv 2 10 (MX.mv 0 11 MX.done))))) 1 9 (MX.mv 1 1 (MX.mv 1 3 (MX.mv 1 4 (MX.mv 2 10 (MX.mv 0 11 MX.done)))))))))))) ?_ (by kernel_rfl) ?_; rfl) | refine Drawn.quiet (by kernel_rfl) ?_) | refine dloadE_map (([] : List ByteArray)) ?_ ?_ | refine dcell_ok rfl ?_ | refine AppC.new ?_))
  all_goals try ((conv => whnf); with_reducible refine Round.mark ?_)
  all_goals first | (exact of_decide_eq_true (by assumption); done) | (exact lt_of_test (by assumption); done) | (refine Round.go (fun _ => i + 1) (sr_1 (by assumption)) (sr_2 (by assumption)) (Weak.list [(0, some 0), (1, some 1)] [] (by kernel_rfl) ?_ ?_)) | skip
  all_goals repeat' (first | exact sr_3 (by assumption) ht | exact DW.same _ rfl | exact DW.ref _ _ _ rfl | exact OW.cells rfl rfl (DWl.same rfl) | refine DWl.cons ?_ ?_ | exact DWl.nil | refine DW.int ?_ | ((conv => whnf); first | refine And.intro ?_ ?_ | trivial))
  repeat' (first | with_reducible rfl | ((conv => whnf); first | refine And.intro ?_ ?_ | (intro h; first | with_reducible exact tf_no h | with_reducible exact ft_no h | exact Bool.noConfusion h | with_reducible exact h | (have ht : true = true := h; clear ht h) | skip) | ((with_reducible refine ECall.mark ?_); first | refine ECall.only ?_ (fun h => nomatch h) | refine ECall.only ?_ ?_) | ((with_reducible refine Drawn.mark ?_); first | refine Drawn.quiet (by kernel_rfl) ?_) | refine dcell_ok rfl ?_ | refine AppC.new ?_))
  all_goals first | (with_reducible refine enters_mark ?_; kernel_rfl) | (with_reducible refine boolT_mark ?_; kernel_rfl) | rfl | trivial | assumption | exact Nat.le_of_ble_eq_true rfl | (show entersB _ _ = true; kernel_rfl) | exact DW.same _ rfl | exact DW.ref _ _ _ rfl | exact DW.arr _ _ _ rfl | refine DW.int ?_ | refine dvb ?_ | refine dvi ?_ | exact OW.cells rfl rfl (DWl.same rfl) | exact Nat.zero_le _ | omega | skip
  all_goals repeat' (first | refine OW.cells rfl rfl ?_ | exact DW.nilArr _ rfl | refine DWl.cons ?_ ?_ | exact DWl.nil | exact DW.same _ rfl | exact DW.ref _ _ _ rfl | exact DW.arr _ _ _ rfl | exact DW.sub _ _ _ _ rfl | exact DW.mo _ _ rfl | exact DW.nilLst _ | refine DW.aggl ?_ | refine DW.tupl ?_ | refine DW.clol ?_ ?_)
  all_goals try ((conv => whnf); with_reducible first | refine Round.mark ?_ | refine Tells.mark ?_ | refine Retold.mark ?_)
  all_goals try first | (show (_ : Bool) = _; simp_all; done) | (show (_ : Int) < _; simp at *; omega) | (show (_ : Int) ≤ _; simp at *; omega) | (show (_ : Nat) < _; simp at *; omega) | (show (_ : Nat) ≤ _; simp at *; omega)
end Go.Proofs.YtlchjjchgebfiaaGreatDoor
namespace Go.Proofs.YtlchjjchgebfiaaGreatDoor
open Go.RowKit Go.Dl
attribute [local irreducible] Tri SCall TSem ECall Drawn DFun QSem PSem PCall GCall MCall Round Weak dloadE OW DWl Tells IntKind.wrap Retold ESem
def WrG (t : Tb) : Prop := t.rows.length ≤ 4096 ∧ (∀ l, l = t.head ∨ l ∈ t.rows → l.length ≤ 64 ∧ ∀ s ∈ l, s.size ≤ 1024)
end Go.Proofs.YtlchjjchgebfiaaGreatDoor
namespace Go.Proofs.YtlchjjchgebfiaaGreatDoor
open Go.RowKit Go.Dl
theorem take_at {s : ByteArray} {i : Nat} (h : i < s.size) : s.data.toList.take (i + 1) = s.data.toList.take i ++ [s.data.toList.getD i 0] := take_succ (by rw [sz_len]; exact h)
end Go.Proofs.YtlchjjchgebfiaaGreatDoor
