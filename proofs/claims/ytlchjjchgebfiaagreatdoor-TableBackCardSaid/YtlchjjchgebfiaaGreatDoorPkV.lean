/- A table in memory of its own. -/
import Derived.Test.YtlchjjchgebfiaaGreatDoorPkU
import Derived.Test.YtlchjjchgebfiaaGreatDoorPkN
import Derived.Test.YtlchjjchgebfiaaGreatDoorPkM
import Derived.Test.YtlchjjchgebfiaaGreatDoorPkX

namespace Go.Proofs.YtlchjjchgebfiaaGreatDoor
open Go.RowKit Go.Dl
attribute [local irreducible] Tri SCall TSem ECall Drawn DFun QSem PSem PCall GCall MCall Round Weak dloadE OW DWl Tells IntKind.wrap Retold ESem
set_option maxRecDepth 20000 in
theorem copied31_D (l : List ByteArray) (h1 : 1 ≤ l.length) (hl : l.length ≤ 4096) : DPure Tryz.prog 31 [strs l] (strs l) := by
  have hne : l.map strD ≠ [] := fun e => by have : (l.map strD).length = 0 := by rw [e]; rfl
                                            rw [List.length_map] at this; omega
  refine DFun.data (DFun.body Tryz.func31 rfl (by kernel_rfl) ?_)
  repeat' (first | with_reducible rfl | ((conv => whnf); first | refine And.intro ?_ ?_ | (intro h; first | with_reducible exact tf_no h | with_reducible exact ft_no h | exact Bool.noConfusion h | with_reducible exact h | (have ht : true = true := h; clear ht h) | skip) | ((with_reducible refine DWl.mark ?_); repeat' (first | refine DWl.cons ?_ ?_ | exact DWl.nil | exact DW.same _ rfl | exact DW.ref _ _ _ rfl | exact DW.arr _ _ _ rfl | exact DW.sub _ _ _ _ rfl | exact DW.nilLst _ | refine DW.aggl ?_ | refine DW.tupl ?_ | refine DW.clol ?_ ?_ | refine DW.int ?_ | refine DW.bool ?_ | refine DW.str ?_)) | ((with_reducible refine ECall.mark ?_); first | refine ECall.only ?_ (fun h => nomatch h) | refine ECall.only ?_ ?_) | ((with_reducible refine Drawn.mark ?_); first | refine Drawn.quiet (by kernel_rfl) ?_) | refine dq_nilL rfl (fun _ => hne) ?_ rfl ?_ rfl ?_ | refine dcell_ok rfl ?_ | refine AppC.new ?_))
  all_goals first | (with_reducible refine enters_mark ?_; kernel_rfl) | (with_reducible refine boolT_mark ?_; kernel_rfl) | rfl | trivial | assumption | exact Nat.le_of_ble_eq_true rfl | (show entersB _ _ = true; kernel_rfl) | exact DW.same _ rfl | exact DW.ref _ _ _ rfl | exact DW.arr _ _ _ rfl | refine DW.int ?_ | refine dvb ?_ | refine dvi ?_ | exact OW.cells rfl rfl (DWl.same rfl) | exact Nat.zero_le _ | omega | skip
  all_goals repeat' (first | refine OW.cells rfl rfl ?_ | exact DW.nilArr _ rfl | refine DWl.cons ?_ ?_ | exact DWl.nil | exact DW.same _ rfl | exact DW.ref _ _ _ rfl | exact DW.arr _ _ _ rfl | exact DW.sub _ _ _ _ rfl | exact DW.nilLst _ | refine DW.aggl ?_ | refine DW.tupl ?_ | refine DW.clol ?_ ?_)
  all_goals try ((conv => whnf); with_reducible first | refine Round.mark ?_ | refine Tells.mark ?_ | refine Retold.mark ?_)
  all_goals try first | (show (_ : Bool) = _; simp_all; done) | (show (_ : Int) < _; simp at *; omega) | (show (_ : Int) ≤ _; simp at *; omega) | (show (_ : Nat) < _; simp at *; omega) | (show (_ : Nat) ≤ _; simp at *; omega)
  · show ((l.map strD).length) * 16 ≤ 140737488355328
    rw [List.length_map]; omega
  · rw [List.length_map]; simp only [maxLen]; omega
  · conv => whnf
    exact Tells.mk (DW.pubM rfl (by first | rw [List.length_map] | rw [Nat.zero_add, List.length_map]) rfl rfl strRow rfl)
structure CpOk (t : Tb) : Prop where
  rows : t.rows.length ≤ 4096
  all : ∀ l, l = t.head ∨ l ∈ t.rows → 1 ≤ l.length ∧ l.length ≤ 4096
def cpSt (t : Tb) (i : Nat) : St := ⟨0, tmOf [(1, .ref 0 0), (2, .ref 1 0), (3, .ref 2 0), (4, int1 i)], .of [(0, ⟨25, 2, tbD t⟩), (1, ⟨25, 2, [.v (.slice none 0 0), .v (.slice none 0 0)]⟩), (2, ⟨25, 2, [strs t.head, .arr 3 i]⟩), (3, ⟨22, 1, rowsC (t.rows.take i)⟩)] 4⟩
theorem cp_all (t : Tb) : rowsC (t.rows.take t.rows.length) = (t.rows.map rowD).flatten := by rw [List.take_length]; rfl
theorem cp_mu {t : Tb} {i : Nat} (h : decide ((i : Int) < ((t.rows.map rowD).length : Nat)) = true) : t.rows.length - (i + 1) < t.rows.length - i := by
  have := lt_of_test h; omega
attribute [local irreducible] rowsC
set_option maxRecDepth 20000 in
set_option maxHeartbeats 2000000 in
set_option pp.maxSteps 800 in
theorem copy11_D (t : Tb) (ht : CpOk t) : DPure Tryz.prog 11 [tab t] (tab t) := by
  have hh := ht.all _ (.inl rfl)
  have hc := fun i (h : i < t.rows.length) => copied31_D (t.rows.getD (i : Int).toNat []) (ht.all _ (.inr (mem_at h))).1 (ht.all _ (.inr (mem_at h))).2
  refine DFun.data (DFun.body Tryz.func11 rfl (by kernel_rfl) ?_)
  repeat' (first | with_reducible rfl | ((conv => whnf); first | refine And.intro ?_ ?_ | (intro h; first | with_reducible exact tf_no h | with_reducible exact ft_no h | exact Bool.noConfusion h | with_reducible exact h | (have ht : true = true := h; clear ht h) | skip) | ((with_reducible refine DWl.mark ?_); repeat' (first | refine DWl.cons ?_ ?_ | exact DWl.nil | exact DW.same _ rfl | exact DW.ref _ _ _ rfl | exact DW.arr _ _ _ rfl | exact DW.sub _ _ _ _ rfl | exact DW.nilLst _ | refine DW.aggl ?_ | refine DW.tupl ?_ | refine DW.clol ?_ ?_ | refine DW.int ?_ | refine DW.bool ?_ | refine DW.str ?_)) | ((with_reducible refine SCall.mark ?_); first | refine SCall.data (copied31_D t.head hh.1 hh.2) rfl rfl ?_ | refine SCall.scal (copied31_D t.head hh.1 hh.2) rfl rfl ?_) | ((with_reducible refine PCall.mark ?_); first | refine PCall.mk (copied31_D t.head hh.1 hh.2) rfl rfl ?_) | ((with_reducible refine GCall.mark ?_); first | refine GCall.data (fun _ => copied31_D t.head hh.1 hh.2) rfl rfl ?_ | refine GCall.scal (fun _ => copied31_D t.head hh.1 hh.2) rfl rfl ?_) | ((with_reducible refine MCall.mark ?_); first | refine MCall.data (fun _ => copied31_D t.head hh.1 hh.2) rfl rfl ?_ | refine MCall.plain (PCall.mk (copied31_D t.head hh.1 hh.2) rfl rfl ?_)) | ((with_reducible refine ECall.mark ?_); first | refine ECall.only ?_ (fun h => nomatch h) | refine ECall.only ?_ ?_) | ((with_reducible refine Drawn.mark ?_); first | refine Drawn.quiet (by kernel_rfl) ?_) | refine dcell_ok rfl ?_ | refine AppC.new ?_))
  all_goals first | (with_reducible refine enters_mark ?_; kernel_rfl) | (with_reducible refine boolT_mark ?_; kernel_rfl) | rfl | trivial | assumption | exact Nat.le_of_ble_eq_true rfl | (show entersB _ _ = true; kernel_rfl) | exact DW.same _ rfl | exact DW.ref _ _ _ rfl | exact DW.arr _ _ _ rfl | refine DW.int ?_ | refine dvb ?_ | refine dvi ?_ | exact OW.cells rfl rfl (DWl.same rfl) | exact Nat.zero_le _ | omega | skip
  all_goals repeat' (first | refine OW.cells rfl rfl ?_ | exact DW.nilArr _ rfl | refine DWl.cons ?_ ?_ | exact DWl.nil | exact DW.same _ rfl | exact DW.ref _ _ _ rfl | exact DW.arr _ _ _ rfl | exact DW.sub _ _ _ _ rfl | exact DW.nilLst _ | refine DW.aggl ?_ | refine DW.tupl ?_ | refine DW.clol ?_ ?_)
  all_goals try ((conv => whnf); with_reducible first | refine Round.mark ?_ | refine Tells.mark ?_ | refine Retold.mark ?_)
  all_goals try first | (show (_ : Bool) = _; simp_all; done) | (show (_ : Int) < _; simp at *; omega) | (show (_ : Int) ≤ _; simp at *; omega) | (show (_ : Nat) < _; simp at *; omega) | (show (_ : Nat) ≤ _; simp at *; omega)
  conv => whnf
  refine Tri.loop (cpSt t) (fun i => i ≤ t.rows.length) (fun i => t.rows.length - i) 0 (by kernel_rfl) (Weak.list [(0, some 0), (1, some 1), (2, some 2), (3, none)] [] (by kernel_rfl) ?_ ?_) (Nat.zero_le _) ?_
  · repeat' (first | exact rowsC_nil | exact DW.nilArr _ rfl | exact DWl.same rfl | exact DW.same _ rfl | exact DW.ref _ _ _ rfl | exact DW.arr _ _ _ rfl | exact OW.cells rfl rfl (DWl.same rfl) | refine OW.cells rfl rfl ?_ | refine DWl.cons ?_ ?_ | exact DWl.nil | exact DW.nilArr _ rfl | exact DW.nilLst _ | refine DW.clol ?_ ?_ | refine DW.aggl ?_ | refine DW.tupl ?_ | refine DW.int ?_ | refine DW.bool ?_ | refine DW.str ?_ | refine DW.arrE rfl ?_ | ((conv => whnf); first | refine And.intro ?_ ?_ | trivial))
  · repeat' (first | exact rowsC_nil | exact DW.nilArr _ rfl | exact DWl.same rfl | exact DW.same _ rfl | exact DW.ref _ _ _ rfl | exact DW.arr _ _ _ rfl | exact OW.cells rfl rfl (DWl.same rfl) | refine OW.cells rfl rfl ?_ | refine DWl.cons ?_ ?_ | exact DWl.nil | exact DW.nilArr _ rfl | exact DW.nilLst _ | refine DW.clol ?_ ?_ | refine DW.aggl ?_ | refine DW.tupl ?_ | refine DW.int ?_ | refine DW.bool ?_ | refine DW.str ?_ | refine DW.arrE rfl ?_ | ((conv => whnf); first | refine And.intro ?_ ?_ | trivial))
  intro i hi
  have hi : i ≤ t.rows.length := hi
  show dcode _ _ _ _ (cpSt t i) _
  repeat' (first | with_reducible rfl | ((conv => whnf); first | refine And.intro ?_ ?_ | (intro h; first | with_reducible exact tf_no h | with_reducible exact ft_no h | exact Bool.noConfusion h | with_reducible exact h | (have ht : true = true := h; clear ht h) | skip) | ((with_reducible refine DWl.mark ?_); repeat' (first | refine DWl.cons ?_ ?_ | exact DWl.nil | exact DW.same _ rfl | exact DW.ref _ _ _ rfl | exact DW.arr _ _ _ rfl | exact DW.sub _ _ _ _ rfl | exact DW.nilLst _ | refine DW.aggl ?_ | refine DW.tupl ?_ | refine DW.clol ?_ ?_ | refine DW.int ?_ | refine DW.bool ?_ | refine DW.str ?_)) | ((with_reducible refine SCall.mark ?_); first | refine SCall.data (hc _ ?_) rfl rfl ?_ | refine SCall.scal (hc _ ?_) rfl rfl ?_) | ((with_reducible refine PCall.mark ?_); first | refine PCall.mk (hc _ ?_) rfl rfl ?_) | ((with_reducible refine GCall.mark ?_); first | refine GCall.data (fun _ => hc _ ?_) rfl rfl ?_ | refine GCall.scal (fun _ => hc _ ?_) rfl rfl ?_) | ((with_reducible refine MCall.mark ?_); first | refine MCall.data (fun _ => hc _ ?_) rfl rfl ?_ | refine MCall.plain (PCall.mk (hc _ ?_) rfl rfl ?_)) | ((with_reducible refine Tri.mark ?_); first | (refine Tri.treeX [0, 1, 2, 3] (MX.mv 0 0 (MX.mv 0 2 (MX.mv 0 4 (MX.two 1 1 (MX.mv 1 3 (MX.mv 1 5 (MX.mv 1 6 (MX.mv 2 7 (MX.mv 1 8 (MX.mv 1 9 (MX.mv 1 10 (MX.mv 1 11 MX.done)))))))) 1 3 (MX.two 1 1 (MX.mv 1 5 (MX.mv 1 6 (MX.mv 2 7 (MX.mv 1 8 (MX.mv 1 9 (MX.mv 1 10 (MX.mv 1 11 MX.done))))))) 1 5 (MX.two 1 1 (MX.mv 1 6 (MX.mv 2 7 (MX.mv 1 8 (MX.mv 1 9 (MX.mv 1 10 (MX.mv 1 11 MX.done)))))) 1 6 (MX.two 1 1 (MX.mv 2 7 (MX.mv 1 8 (MX.mv 1 9 (MX.mv 1 10 (MX.mv 1 11 MX.done))))) 2 7 (MX.two 1 1 (MX.mv 1 8 (MX.mv 1 9 (MX.mv 1 10 (MX.mv 1 11 MX.done)))) 1 8 (MX.mv 1 1 (MX.mv 1 9 (MX.mv 1 10 (MX.mv 1 11 MX.done)))))))))))) ?_ (by kernel_rfl) ?_; rfl)) | ((with_reducible refine ECall.mark ?_); first | refine ECall.only ?_ (fun h => nomatch h) | refine ECall.only ?_ ?_) | ((with_reducible refine Drawn.mark ?_); first | (refine Drawn.tree ?_; refine Tri.treeX [0, 1, 2, 3] (MX.mv 0 0 (MX.mv 0 2 (MX.mv 0 4 (MX.two 1 1 (MX.mv 1 3 (MX.mv 1 5 (MX.mv 1 6 (MX.mv 2 7 (MX.mv 1 8 (MX.mv 1 9 (MX.mv 1 10 (MX.mv 1 11 MX.done)))))))) 1 3 (MX.two 1 1 (MX.mv 1 5 (MX.mv 1 6 (MX.mv 2 7 (MX.mv 1 8 (MX.mv 1 9 (MX.mv 1 10 (MX.mv 1 11 MX.done))))))) 1 5 (MX.two 1 1 (MX.mv 1 6 (MX.mv 2 7 (MX.mv 1 8 (MX.mv 1 9 (MX.mv 1 10 (MX.mv 1 11 MX.done)))))) 1 6 (MX.two 1 1 (MX.mv 2 7 (MX.mv 1 8 (MX.mv 1 9 (MX.mv 1 10 (MX.mv 1 11 MX.done))))) 2 7 (MX.two 1 1 (MX.mv 1 8 (MX.mv 1 9 (MX.mv 1 10 (MX.mv 1 11 MX.done)))) 1 8 (MX.mv 1 1 (MX.mv 1 9 (MX.mv 1 10 (MX.mv 1 11 MX.done)))))))))))) ?_ (by kernel_rfl) ?_; rfl) | refine Drawn.quiet (by kernel_rfl) ?_) | refine dloadE_map (([] : List ByteArray)) ?_ ?_ | refine dcell_ok rfl ?_ | refine AppC.new ?_))
  all_goals try ((conv => whnf); with_reducible refine Round.mark ?_)
  all_goals try first | ((with_reducible show Option.isSome (slElem _ _) = true); kernel_rfl) | ((with_reducible show slElem _ _ = some _); kernel_rfl) | ((with_reducible refine enters_mark ?_); kernel_rfl) | (with_reducible assumption) | ((with_reducible show List.all _ DV.one = true); rfl) | ((with_reducible show (_ : Nat) = _); rfl) | ((with_reducible show (_ == true) = true); simpa using h) | ((with_reducible show (_ : Nat) ≤ _); exact Nat.le_of_ble_eq_true rfl) | ((with_reducible show (_ : Int) ≤ _); first | omega | decide) | ((with_reducible show (_ : Int) < _); first | omega | decide) | ((with_reducible show (_ : Nat) < _); omega) | ((with_reducible show (_ : Nat) ≤ _); omega)
  all_goals try (first | (exact of_decide_eq_true (by assumption); done) | (exact lt_of_test (by assumption); done) | ((with_reducible show Option.all _ _ = true); rfl) | (exact rc_c1 (lt_of_test (by assumption)); done) | (exact rc_b2 (Nat.le_trans hi ht.rows); done) | (exact rc_b3 (Nat.le_trans hi ht.rows); done))
  all_goals try (refine Round.go (fun _ => i + 1) (lt_of_test (by assumption)) (cp_mu (by assumption)) (Weak.list [(0, some 0), (1, some 1), (2, some 2), (3, some 5)] [] (by kernel_rfl) ?_ ?_))
  repeat' (first | with_reducible rfl | ((conv => whnf); first | refine And.intro ?_ ?_ | (intro h; first | with_reducible exact tf_no h | with_reducible exact ft_no h | exact Bool.noConfusion h | with_reducible exact h | (have ht : true = true := h; clear ht h) | skip) | ((with_reducible refine DWl.mark ?_); repeat' (first | refine DWl.cons ?_ ?_ | exact DWl.nil | exact DW.same _ rfl | exact DW.ref _ _ _ rfl | exact DW.arr _ _ _ rfl | exact DW.sub _ _ _ _ rfl | exact DW.nilLst _ | refine DW.aggl ?_ | refine DW.tupl ?_ | refine DW.clol ?_ ?_ | refine DW.int ?_ | refine DW.bool ?_ | refine DW.str ?_)) | ((with_reducible refine ECall.mark ?_); first | refine ECall.only ?_ (fun h => nomatch h) | refine ECall.only ?_ ?_) | ((with_reducible refine Drawn.mark ?_); first | refine Drawn.quiet (by kernel_rfl) ?_) | refine dcell_ok rfl ?_ | refine AppC.new ?_))
  all_goals first | (with_reducible refine enters_mark ?_; kernel_rfl) | (with_reducible refine boolT_mark ?_; kernel_rfl) | rfl | trivial | assumption | exact Nat.le_of_ble_eq_true rfl | (show entersB _ _ = true; kernel_rfl) | exact DW.same _ rfl | exact DW.ref _ _ _ rfl | exact DW.arr _ _ _ rfl | refine DW.int ?_ | refine dvb ?_ | refine dvi ?_ | exact OW.cells rfl rfl (DWl.same rfl) | exact Nat.zero_le _ | omega | skip
  all_goals repeat' (first | refine OW.cells rfl rfl ?_ | exact DW.nilArr _ rfl | refine DWl.cons ?_ ?_ | exact DWl.nil | exact DW.same _ rfl | exact DW.ref _ _ _ rfl | exact DW.arr _ _ _ rfl | exact DW.sub _ _ _ _ rfl | exact DW.nilLst _ | refine DW.aggl ?_ | refine DW.tupl ?_ | refine DW.clol ?_ ?_)
  all_goals try ((conv => whnf); with_reducible first | refine Round.mark ?_ | refine Tells.mark ?_ | refine Retold.mark ?_)
  all_goals try first | (show (_ : Bool) = _; simp_all; done) | (show (_ : Int) < _; simp at *; omega) | (show (_ : Int) ≤ _; simp at *; omega) | (show (_ : Nat) < _; simp at *; omega) | (show (_ : Nat) ≤ _; simp at *; omega)
  all_goals try (first | (exact wsucc (lt_of_test (by assumption)) (Nat.le_trans ht.rows (by decide)); done) | (exact DWl.eq (rowsC_next (lt_of_test (by assumption))) (rowsC_all _); done))
  have hi2 : i = t.rows.length := by have := ge_of_test h; omega
  subst hi2
  conv => whnf
  exact Tells.mk (DW.aggl (DWl.cons (DW.same _ rfl) (DWl.cons (DW.pubM rfl rfl rfl rfl rowRow (cp_all t)) DWl.nil)))
end Go.Proofs.YtlchjjchgebfiaaGreatDoor

/- What TableDraws computes. -/
namespace Go.Proofs.YtlchjjchgebfiaaGreatDoor
open Go.RowKit Go.Dl
attribute [local irreducible] Tri SCall TSem ECall Drawn DFun QSem PSem PCall GCall MCall Round Weak dloadE OW DWl Tells IntKind.wrap Retold ESem
theorem len_t (t : Tb) : (t.head.map strD).length = t.head.length := List.length_map _
theorem rowB_len {l : List ByteArray} {n : Int} (h : rowB l n = true) : (l.length : Int) = n ∧ ∀ s ∈ l, s.size ≤ 1024 ∧ s.data.toList.all nz = true := by
  unfold rowB at h
  rw [Bool.and_eq_true] at h
  refine ⟨of_decide_eq_true h.1, fun s hs => ?_⟩
  have h2 := List.all_eq_true.1 h.2 s hs
  unfold cellB at h2
  rw [Bool.and_eq_true] at h2
  exact ⟨of_decide_eq_true h2.2, h2.1⟩
structure Fitt (t : Tb) : Prop where
  rows : t.rows.length ≤ 4096
  head : 1 ≤ t.head.length ∧ t.head.length ≤ 64
  rowB_h : rowB t.head t.head.length = true
  rowB_r : ∀ r ∈ t.rows, rowB r t.head.length = true
theorem nott_t {b : Bool} (h : (!b) = true) : b = true → False := fun e => by rw [e] at h; cases h
theorem fit_iff {t : Tb} : fitB t = true ↔ Fitt t := by
  have hn : (t.head.map strD).length = t.head.length := List.length_map _
  have hr : (t.rows.map rowD).length = t.rows.length := List.length_map _
  unfold fitB badH
  rw [hn, hr]
  constructor
  · intro h
    rw [Bool.and_eq_true] at h
    have h1 := nott_t h.1
    rcases Nat.lt_or_ge t.head.length 1 with a | a
    · exact absurd (by rw [decide_eq_true (show (t.head.length : Int) < 1 by omega)]; rfl) h1
    rw [decide_eq_false (show ¬ (t.head.length : Int) < 1 by omega)] at h1
    rcases Nat.lt_or_ge 64 t.head.length with b | b
    · exact absurd (by rw [decide_eq_true (show (64 : Int) < (t.head.length : Int) by omega)]; rfl) h1
    rw [decide_eq_false (show ¬ (64 : Int) < (t.head.length : Int) by omega)] at h1
    rcases Nat.lt_or_ge 4096 t.rows.length with c | c
    · exact absurd (by rw [decide_eq_true (show (4096 : Int) < (t.rows.length : Int) by omega)]; rfl) h1
    rw [decide_eq_false (show ¬ (4096 : Int) < (t.rows.length : Int) by omega)] at h1
    refine ⟨c, ⟨a, b⟩, ?_, fun r hr => List.all_eq_true.1 h.2 r hr⟩
    cases e : rowB t.head (t.head.length : Nat) with
    | true => rfl
    | false => exact absurd (by rw [e]; rfl) h1
  · intro h
    have h1 := h.rows
    have h2 := h.head
    rw [decide_eq_false (show ¬ (t.head.length : Int) < 1 by omega), decide_eq_false (show ¬ (64 : Int) < (t.head.length : Int) by omega), decide_eq_false (show ¬ (4096 : Int) < (t.rows.length : Int) by omega), h.rowB_h, Bool.and_eq_true]
    exact ⟨rfl, List.all_eq_true.2 h.rowB_r⟩
theorem Fitt.len {t : Tb} (h : Fitt t) : ∀ r ∈ t.rows, r.length = t.head.length := fun r hr => by
  have := (rowB_len (h.rowB_r r hr)).1; omega
theorem Fitt.cell {t : Tb} (h : Fitt t) : ∀ l, l = t.head ∨ l ∈ t.rows → ∀ s ∈ l, s.size ≤ 1024 := fun l hl s hs => by
  rcases hl with rfl | hl
  · exact ((rowB_len h.rowB_h).2 s hs).1
  · exact ((rowB_len (h.rowB_r l hl)).2 s hs).1
theorem Fitt.tbl {t : Tb} (h : Fitt t) : Tbl t := ⟨h.rows, h.head, h.len, h.cell⟩
theorem Fitt.wr {t : Tb} (h : Fitt t) : WrG t := ⟨h.rows, fun l hl => ⟨by
  have h1 := h.head
  rcases hl with rfl | hl
  · omega
  · have := h.len l hl; omega, h.cell l hl⟩⟩
theorem Fitt.even {t : Tb} (h : Fitt t) : Even t := h.len
theorem Fitt.cp {t : Tb} (h : Fitt t) : CpOk t := ⟨h.rows, fun l hl => by
  have h1 := h.head
  rcases hl with rfl | hl
  · omega
  · have := h.len l hl; omega⟩
def lightB (t : Tb) : Bool := bif fitB t then decide (((t.rows.map rowD).length : Int) ≤ 300) else false
attribute [local irreducible] fitB
set_option maxRecDepth 20000 in
theorem light9_D (t : Tb) (ht : SmlT t) : DPure Tryz.prog 9 [tab t] (bl (lightB t)) := by
  have h2 := fit20_D t ht
  refine DFun.body Tryz.func9 rfl (by kernel_rfl) ?_
  repeat' (first | with_reducible rfl | ((conv => whnf); first | refine And.intro ?_ ?_ | (intro h; first | with_reducible exact tf_no h | with_reducible exact ft_no h | exact Bool.noConfusion h | with_reducible exact h | (have ht : true = true := h; clear ht h) | skip) | ((with_reducible refine DWl.mark ?_); repeat' (first | refine DWl.cons ?_ ?_ | exact DWl.nil | exact DW.same _ rfl | exact DW.ref _ _ _ rfl | exact DW.arr _ _ _ rfl | exact DW.sub _ _ _ _ rfl | exact DW.nilLst _ | refine DW.aggl ?_ | refine DW.tupl ?_ | refine DW.clol ?_ ?_ | refine DW.int ?_ | refine DW.bool ?_ | refine DW.str ?_)) | ((with_reducible refine SCall.mark ?_); first | refine SCall.data (h2) rfl rfl ?_ | refine SCall.scal (h2) rfl rfl ?_) | ((with_reducible refine PCall.mark ?_); first | refine PCall.mk (h2) rfl rfl ?_) | ((with_reducible refine GCall.mark ?_); first | refine GCall.data (fun _ => h2) rfl rfl ?_ | refine GCall.scal (fun _ => h2) rfl rfl ?_) | ((with_reducible refine MCall.mark ?_); first | refine MCall.data (fun _ => h2) rfl rfl ?_ | refine MCall.plain (PCall.mk (h2) rfl rfl ?_)) | ((with_reducible refine ECall.mark ?_); first | refine ECall.only ?_ (fun h => nomatch h) | refine ECall.only ?_ ?_) | ((with_reducible refine Drawn.mark ?_); first | refine Drawn.quiet (by kernel_rfl) ?_) | refine dcell_ok rfl ?_ | refine AppC.new ?_))
  all_goals first | (with_reducible refine enters_mark ?_; kernel_rfl) | (with_reducible refine boolT_mark ?_; kernel_rfl) | rfl | trivial | assumption | exact Nat.le_of_ble_eq_true rfl | (show entersB _ _ = true; kernel_rfl) | exact DW.same _ rfl | exact DW.ref _ _ _ rfl | exact DW.arr _ _ _ rfl | refine DW.int ?_ | refine dvb ?_ | refine dvi ?_ | exact OW.cells rfl rfl (DWl.same rfl) | exact Nat.zero_le _ | omega | skip
  all_goals repeat' (first | refine OW.cells rfl rfl ?_ | exact DW.nilArr _ rfl | refine DWl.cons ?_ ?_ | exact DWl.nil | exact DW.same _ rfl | exact DW.ref _ _ _ rfl | exact DW.arr _ _ _ rfl | exact DW.sub _ _ _ _ rfl | exact DW.nilLst _ | refine DW.aggl ?_ | refine DW.tupl ?_ | refine DW.clol ?_ ?_)
  all_goals try ((conv => whnf); with_reducible first | refine Round.mark ?_ | refine Tells.mark ?_ | refine Retold.mark ?_)
  all_goals try first | (show (_ : Bool) = _; simp_all; done) | (show (_ : Int) < _; simp at *; omega) | (show (_ : Int) ≤ _; simp at *; omega) | (show (_ : Nat) < _; simp at *; omega) | (show (_ : Nat) ≤ _; simp at *; omega)
theorem light_fit {t : Tb} (h : lightB t = true) : Fitt t ∧ t.rows.length ≤ 300 := by
  unfold lightB at h
  cases e : fitB t with
  | false => rw [e] at h; cases h
  | true =>
    rw [e] at h
    have h := of_decide_eq_true h
    rw [List.length_map] at h
    exact ⟨fit_iff.1 e, by omega⟩
set_option maxRecDepth 20000 in
theorem draws3_D (t : Tb) (ht : SmlT t) : DPure Tryz.prog 3 [tab t] (bl true) := by
  refine DFun.body Tryz.func3 rfl (by kernel_rfl) ?_
  cases hl : lightB t with
  | false =>
    have h0 := light9_D t ht
    rw [hl] at h0
    repeat' (first | with_reducible rfl | ((conv => whnf); first | refine And.intro ?_ ?_ | (intro h; first | with_reducible exact tf_no h | with_reducible exact ft_no h | exact Bool.noConfusion h | with_reducible exact h | (have ht : true = true := h; clear ht h) | skip) | ((with_reducible refine DWl.mark ?_); repeat' (first | refine DWl.cons ?_ ?_ | exact DWl.nil | exact DW.same _ rfl | exact DW.ref _ _ _ rfl | exact DW.arr _ _ _ rfl | exact DW.sub _ _ _ _ rfl | exact DW.nilLst _ | refine DW.aggl ?_ | refine DW.tupl ?_ | refine DW.clol ?_ ?_ | refine DW.int ?_ | refine DW.bool ?_ | refine DW.str ?_)) | ((with_reducible refine SCall.mark ?_); first | refine SCall.data (h0) rfl rfl ?_ | refine SCall.scal (h0) rfl rfl ?_ | refine SCall.data (awake10_D) rfl rfl ?_ | refine SCall.scal (awake10_D) rfl rfl ?_) | ((with_reducible refine PCall.mark ?_); first | refine PCall.mk (h0) rfl rfl ?_ | refine PCall.mk (awake10_D) rfl rfl ?_) | ((with_reducible refine GCall.mark ?_); first | refine GCall.data (fun _ => h0) rfl rfl ?_ | refine GCall.scal (fun _ => h0) rfl rfl ?_ | refine GCall.data (fun _ => awake10_D) rfl rfl ?_ | refine GCall.scal (fun _ => awake10_D) rfl rfl ?_) | ((with_reducible refine MCall.mark ?_); first | refine MCall.data (fun _ => h0) rfl rfl ?_ | refine MCall.plain (PCall.mk (h0) rfl rfl ?_) | refine MCall.data (fun _ => awake10_D) rfl rfl ?_ | refine MCall.plain (PCall.mk (awake10_D) rfl rfl ?_)) | ((with_reducible refine ECall.mark ?_); first | refine ECall.only ?_ (fun h => nomatch h) | refine ECall.only ?_ ?_) | ((with_reducible refine Drawn.mark ?_); first | refine Drawn.quiet (by kernel_rfl) ?_) | refine dcell_ok rfl ?_ | refine AppC.new ?_))
    all_goals first | (with_reducible refine enters_mark ?_; kernel_rfl) | (with_reducible refine boolT_mark ?_; kernel_rfl) | rfl | trivial | assumption | exact Nat.le_of_ble_eq_true rfl | (show entersB _ _ = true; kernel_rfl) | exact DW.same _ rfl | exact DW.ref _ _ _ rfl | exact DW.arr _ _ _ rfl | refine DW.int ?_ | refine dvb ?_ | refine dvi ?_ | exact OW.cells rfl rfl (DWl.same rfl) | exact Nat.zero_le _ | omega | skip
    all_goals repeat' (first | refine OW.cells rfl rfl ?_ | exact DW.nilArr _ rfl | refine DWl.cons ?_ ?_ | exact DWl.nil | exact DW.same _ rfl | exact DW.ref _ _ _ rfl | exact DW.arr _ _ _ rfl | exact DW.sub _ _ _ _ rfl | exact DW.nilLst _ | refine DW.aggl ?_ | refine DW.tupl ?_ | refine DW.clol ?_ ?_)
    all_goals try ((conv => whnf); with_reducible first | refine Round.mark ?_ | refine Tells.mark ?_ | refine Retold.mark ?_)
    all_goals try first | (show (_ : Bool) = _; simp_all; done) | (show (_ : Int) < _; simp at *; omega) | (show (_ : Int) ≤ _; simp at *; omega) | (show (_ : Nat) < _; simp at *; omega) | (show (_ : Nat) ≤ _; simp at *; omega)
  | true =>
    have h0 := light9_D t ht
    rw [hl] at h0
    have hf := (light_fit hl).1
    repeat' (first | with_reducible rfl | ((conv => whnf); first | refine And.intro ?_ ?_ | (intro h; first | with_reducible exact tf_no h | with_reducible exact ft_no h | exact Bool.noConfusion h | with_reducible exact h | (have ht : true = true := h; clear ht h) | skip) | ((with_reducible refine DWl.mark ?_); repeat' (first | refine DWl.cons ?_ ?_ | exact DWl.nil | exact DW.same _ rfl | exact DW.ref _ _ _ rfl | exact DW.arr _ _ _ rfl | exact DW.sub _ _ _ _ rfl | exact DW.nilLst _ | refine DW.aggl ?_ | refine DW.tupl ?_ | refine DW.clol ?_ ?_ | refine DW.int ?_ | refine DW.bool ?_ | refine DW.str ?_)) | ((with_reducible refine SCall.mark ?_); first | refine SCall.data (h0) rfl rfl ?_ | refine SCall.scal (h0) rfl rfl ?_ | refine SCall.data (awake10_D) rfl rfl ?_ | refine SCall.scal (awake10_D) rfl rfl ?_ | refine SCall.data (draw12_D t hf.tbl) rfl rfl ?_ | refine SCall.scal (draw12_D t hf.tbl) rfl rfl ?_ | refine SCall.data (draw13_D t hf.tbl) rfl rfl ?_ | refine SCall.scal (draw13_D t hf.tbl) rfl rfl ?_ | refine SCall.data (write14_G t hf.wr) rfl rfl ?_ | refine SCall.scal (write14_G t hf.wr) rfl rfl ?_ | refine SCall.data (write15_D t hf.wr hf.even) rfl rfl ?_ | refine SCall.scal (write15_D t hf.wr hf.even) rfl rfl ?_ | refine SCall.data (copy11_D t hf.cp) rfl rfl ?_ | refine SCall.scal (copy11_D t hf.cp) rfl rfl ?_ | refine SCall.data (same16_D t ht) rfl rfl ?_ | refine SCall.scal (same16_D t ht) rfl rfl ?_) | ((with_reducible refine PCall.mark ?_); first | refine PCall.mk (h0) rfl rfl ?_ | refine PCall.mk (awake10_D) rfl rfl ?_ | refine PCall.mk (draw12_D t hf.tbl) rfl rfl ?_ | refine PCall.mk (draw13_D t hf.tbl) rfl rfl ?_ | refine PCall.mk (write14_G t hf.wr) rfl rfl ?_ | refine PCall.mk (write15_D t hf.wr hf.even) rfl rfl ?_ | refine PCall.mk (copy11_D t hf.cp) rfl rfl ?_ | refine PCall.mk (same16_D t ht) rfl rfl ?_) | ((with_reducible refine GCall.mark ?_); first | refine GCall.data (fun _ => h0) rfl rfl ?_ | refine GCall.scal (fun _ => h0) rfl rfl ?_ | refine GCall.data (fun _ => awake10_D) rfl rfl ?_ | refine GCall.scal (fun _ => awake10_D) rfl rfl ?_ | refine GCall.data (fun _ => draw12_D t hf.tbl) rfl rfl ?_ | refine GCall.scal (fun _ => draw12_D t hf.tbl) rfl rfl ?_ | refine GCall.data (fun _ => draw13_D t hf.tbl) rfl rfl ?_ | refine GCall.scal (fun _ => draw13_D t hf.tbl) rfl rfl ?_ | refine GCall.data (fun _ => write14_G t hf.wr) rfl rfl ?_ | refine GCall.scal (fun _ => write14_G t hf.wr) rfl rfl ?_ | refine GCall.data (fun _ => write15_D t hf.wr hf.even) rfl rfl ?_ | refine GCall.scal (fun _ => write15_D t hf.wr hf.even) rfl rfl ?_ | refine GCall.data (fun _ => copy11_D t hf.cp) rfl rfl ?_ | refine GCall.scal (fun _ => copy11_D t hf.cp) rfl rfl ?_ | refine GCall.data (fun _ => same16_D t ht) rfl rfl ?_ | refine GCall.scal (fun _ => same16_D t ht) rfl rfl ?_) | ((with_reducible refine MCall.mark ?_); first | refine MCall.data (fun _ => h0) rfl rfl ?_ | refine MCall.plain (PCall.mk (h0) rfl rfl ?_) | refine MCall.data (fun _ => awake10_D) rfl rfl ?_ | refine MCall.plain (PCall.mk (awake10_D) rfl rfl ?_) | refine MCall.data (fun _ => draw12_D t hf.tbl) rfl rfl ?_ | refine MCall.plain (PCall.mk (draw12_D t hf.tbl) rfl rfl ?_) | refine MCall.data (fun _ => draw13_D t hf.tbl) rfl rfl ?_ | refine MCall.plain (PCall.mk (draw13_D t hf.tbl) rfl rfl ?_) | refine MCall.data (fun _ => write14_G t hf.wr) rfl rfl ?_ | refine MCall.plain (PCall.mk (write14_G t hf.wr) rfl rfl ?_) | refine MCall.data (fun _ => write15_D t hf.wr hf.even) rfl rfl ?_ | refine MCall.plain (PCall.mk (write15_D t hf.wr hf.even) rfl rfl ?_) | refine MCall.data (fun _ => copy11_D t hf.cp) rfl rfl ?_ | refine MCall.plain (PCall.mk (copy11_D t hf.cp) rfl rfl ?_) | refine MCall.data (fun _ => same16_D t ht) rfl rfl ?_ | refine MCall.plain (PCall.mk (same16_D t ht) rfl rfl ?_)) | ((with_reducible refine ECall.mark ?_); first | refine ECall.only ?_ (fun h => nomatch h) | refine ECall.only ?_ ?_) | ((with_reducible refine Drawn.mark ?_); first | refine Drawn.quiet (by kernel_rfl) ?_) | refine dcell_ok rfl ?_ | refine AppC.new ?_))
    all_goals first | (with_reducible refine enters_mark ?_; kernel_rfl) | (with_reducible refine boolT_mark ?_; kernel_rfl) | rfl | trivial | assumption | exact Nat.le_of_ble_eq_true rfl | (show entersB _ _ = true; kernel_rfl) | exact DW.same _ rfl | exact DW.ref _ _ _ rfl | exact DW.arr _ _ _ rfl | refine DW.int ?_ | refine dvb ?_ | refine dvi ?_ | exact OW.cells rfl rfl (DWl.same rfl) | exact Nat.zero_le _ | omega | skip
    all_goals repeat' (first | refine OW.cells rfl rfl ?_ | exact DW.nilArr _ rfl | refine DWl.cons ?_ ?_ | exact DWl.nil | exact DW.same _ rfl | exact DW.ref _ _ _ rfl | exact DW.arr _ _ _ rfl | exact DW.sub _ _ _ _ rfl | exact DW.nilLst _ | refine DW.aggl ?_ | refine DW.tupl ?_ | refine DW.clol ?_ ?_)
    all_goals try ((conv => whnf); with_reducible first | refine Round.mark ?_ | refine Tells.mark ?_ | refine Retold.mark ?_)
    all_goals try first | (show (_ : Bool) = _; simp_all; done) | (show (_ : Int) < _; simp at *; omega) | (show (_ : Int) ≤ _; simp at *; omega) | (show (_ : Nat) < _; simp at *; omega) | (show (_ : Nat) ≤ _; simp at *; omega)
    show (bif bif bif drawT t == drawT t then textW t == textW t else false then true else false then true else false) = true
    rw [ba_eq.2 rfl, ba_eq.2 rfl]; rfl
end Go.Proofs.YtlchjjchgebfiaaGreatDoor
