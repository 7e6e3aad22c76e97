/- Rows of what happens: the document's Play. -/
import Derived.Test.YtopdllcpeaflaaaH
namespace Go.Proofs.Ytopdllcpeaflaaa
open Go.RowKit Go.Dl
attribute [local irreducible] Tri SCall DFun QSem PCall GCall MCall Round Weak dloadE OW DWl Tells IntKind.wrap Retold

def playSt14 (l : List Int) (x : PlayI) : St :=
  ⟨0, tmOf [(1, .lst 1 (l.map intD)), (4, .ref 1 0), (6, .ref 2 0), (7, .arr 3 x.told.length), (8, .v (.int .i64 x.k))],
    .of [(1, ⟨24, 6, half0C⟩), (2, ⟨24, 6, halfC x.g⟩), (3, ⟨3, 1, toldC x.told⟩)] 4⟩
def playPre14 (hf : HalfL) (l : List Int) (x : PlayI) : Prop := playPre hf l x ∧ x.g.lines.length ≤ 1000000

theorem step_lines (g : HalfL) (told : List Int) (k : Int) (h : g.lines.length ≤ 1000000) : (stepH g told k).1.1.lines.length ≤ 1000000 := by
  unfold stepH; repeat' split
  · unfold turnH; repeat' split
    all_goals first | exact h | exact (by decide : (0 : Nat) ≤ 1000000)
  all_goals exact h
theorem pre14_step {hf : HalfL} {l : List Int} {x : PlayI} {kk : Int} (h : playPre14 hf l x) (hlt : decide ((x.k : Int) < ((l.map intD).length : Int)) = true) (hk : l.getD (x.k : Int).toNat 0 = kk) {g : HalfL} {told : List Int} (hs : stepH x.g x.told kk = ((g, told), false)) :
    playPre14 hf l ⟨x.k + 1, g, told⟩ := by
  refine ⟨pre_step h.1 hlt hk hs, ?_⟩
  have := step_lines x.g x.told kk h.2
  rw [hs] at this
  exact this

theorem rplay_D (hf : HalfL) (l : List Int) (hl : hf.lines.length ≤ 1000000) (h0 : 0 ≤ hf.miss) (h3 : hf.miss < 3) (hn : l.length * 8 ≤ 140737488355328) :
    DPure Try.prog 14 [halfD hf, .lst 1 (l.map intD)] (.tup [halfD (playH l hf []).1, .lst 1 ((playH l hf []).2.map intD)]) := by
  refine DFun.data (DFun.body Try.func14 rfl (by kernel_rfl) ?_)
  repeat' (first | with_reducible rfl | ((conv => whnf); first | refine And.intro ?_ ?_ | (intro h; first | exact Bool.noConfusion h | with_reducible exact h | (have ht : true = true := h; clear ht h) | skip) | ((with_reducible refine DWl.mark ?_); repeat' (first | refine DWl.cons ?_ ?_ | exact DWl.nil | exact DW.same _ rfl | exact DW.ref _ _ _ rfl | exact DW.arr _ _ _ rfl | exact DW.sub _ _ _ _ rfl | exact DW.nilLst _ | refine DW.aggl ?_ | refine DW.tupl ?_ | refine DW.clol ?_ ?_ | refine DW.int ?_ | refine DW.bool ?_ | refine DW.str ?_)) | ((with_reducible refine SCall.mark ?_); first | refine SCall.data (copied_D hf hl) rfl rfl ?_ | refine SCall.data (rturn_D _ ?_ ?_ ?_) rfl rfl ?_ | refine SCall.data (rasked_D _ ?_) rfl rfl ?_ | refine SCall.data (rheard_D _ ?_) rfl rfl ?_ | refine SCall.data (ranswered_D _ ?_) rfl rfl ?_) | ((with_reducible refine GCall.mark ?_); first | refine GCall.data (fun _ => copied_D hf hl) rfl rfl ?_) | ((with_reducible refine MCall.mark ?_); first | refine MCall.data (fun _ => copied_D hf hl) rfl rfl ?_) | ((with_reducible refine Tri.mark ?_); first | refine Tri.loop (playSt14 l) (playPre14 hf l) (fun x => l.length - x.k) (⟨0, hf, []⟩) (by kernel_rfl) (Weak.list [(1, some 1), (2, some 2), (3, none)] [] ?_ ?_ ?_) ?_ ?_) | refine dloadE_map (0) ?_ ?_ | refine dcell_ok rfl ?_ | refine AppC.new ?_))
  all_goals first | rfl | trivial | assumption | exact Nat.le_of_ble_eq_true rfl | (show entersB _ _ = true; kernel_rfl) | exact DW.same _ rfl | exact DW.ref _ _ _ rfl | exact DW.arr _ _ _ rfl | refine DW.int ?_ | refine dvb ?_ | exact OW.cells rfl rfl (DWl.same rfl) | exact Nat.zero_le _ | omega | skip
  all_goals repeat' (first | refine OW.cells rfl rfl ?_ | exact DW.nilArr _ rfl | refine DW.clol ?_ ?_ | refine DWl.cons ?_ ?_ | exact DWl.nil | exact DW.same _ rfl | exact DW.ref _ _ _ rfl | exact DW.arr _ _ _ rfl)
  all_goals try ((conv => whnf); with_reducible refine Round.mark ?_)
  · simp at *; omega
  · simp at *; omega
  · rename_i x hx _; exact hx.2
  · rename_i x hx _; exact hx.1.2.1
  · rename_i x hx _; exact hx.1.2.2.1
  · rename_i x hx _; show x.told.length * 1 ≤ (toldC x.told).length; rw [toldC_len]; omega
  · rename_i x hx hlt; have := hx.1.2.2.2.1; simp at hlt; show (x.told.length + 1) * 8 ≤ 140737488355328; omega
  · rename_i x hx hlt; have := hx.1.2.2.2.1; simp at hlt; simp only [maxLen]; omega
  · rename_i x hx hlt h1
    have h1 : l.getD (x.k : Int).toNat 0 = 1 := by simpa using h1
    have h : (turnH x.g).2 = 2 := by simpa using h
    have e := pre_end hx.1 hlt h1 (g := (turnH x.g).1) (told := x.told ++ [(turnH x.g).2]) (by simp [stepH, h])
    refine Tells.of (r1 := .tup [halfD (turnH x.g).1, .lst 1 ((x.told ++ [(turnH x.g).2]).map intD)]) (by rw [e]) (Tells.mk ?_)
    refine DW.tupl (DWl.cons (DW.aggl ?_) (DWl.cons (DW.pubE rfl rfl (by decide) trivial (by simp) (told_rows _) (toldC_add _ _)) DWl.nil))
    repeat' (first | exact DW.same _ rfl |  exact DW.nilLst _ | refine DW.tupl ?_ | refine DW.aggl ?_ | refine DWl.cons ?_ ?_ | exact DWl.nil | refine DW.int ?_ | refine DW.bool ?_ | refine DW.str ?_ | refine DW.lstE ?_)
  · rename_i x hx hlt h1
    have hwk := pre_wrap hn hx.1 hlt
    have h1 : l.getD (x.k : Int).toNat 0 = 1 := by simpa using h1
    have h : ¬ (turnH x.g).2 = 2 := by simpa using h
    refine Round.go (fun x => ⟨x.k + 1, (turnH x.g).1, x.told ++ [(turnH x.g).2]⟩) ?_ ?_ (Weak.list [(1, some 1), (2, some 2), (3, some 6)] [] ?_ ?_ ?_)
    · exact pre14_step hx hlt h1 (by simp [stepH, h])
    · first | omega | (simp at *; omega)
    · kernel_rfl
    · repeat' (first | exact OW.same rfl rfl (toldC_add _ _) (toldC_all _) | exact hwk | exact DW.arrE rfl (by simp) | exact DW.same _ rfl | exact DW.ref _ _ _ rfl | exact DW.arr _ _ _ rfl | exact OW.cells rfl rfl (DWl.same rfl) | refine OW.cells rfl rfl ?_ | refine DWl.cons ?_ ?_ | exact DWl.nil | exact DW.nilArr _ rfl | exact DW.nilLst _ | refine DW.clol ?_ ?_ | refine DW.aggl ?_ | refine DW.tupl ?_ | refine DW.int ?_ | refine DW.bool ?_ | refine DW.str ?_ | refine DW.arrE rfl ?_ | ((conv => whnf); first | refine And.intro ?_ ?_ | trivial))
    · repeat' (first | exact OW.same rfl rfl (toldC_add _ _) (toldC_all _) | exact hwk | exact DW.arrE rfl (by simp) | exact DW.same _ rfl | exact DW.ref _ _ _ rfl | exact DW.arr _ _ _ rfl | exact OW.cells rfl rfl (DWl.same rfl) | refine OW.cells rfl rfl ?_ | refine DWl.cons ?_ ?_ | exact DWl.nil | exact DW.nilArr _ rfl | exact DW.nilLst _ | refine DW.clol ?_ ?_ | refine DW.aggl ?_ | refine DW.tupl ?_ | refine DW.int ?_ | refine DW.bool ?_ | refine DW.str ?_ | refine DW.arrE rfl ?_ | ((conv => whnf); first | refine And.intro ?_ ?_ | trivial))
  · rename_i x hx _ _; exact hx.2
  · rename_i x hx hlt _
    have hwk := pre_wrap hn hx.1 hlt
    refine Round.go (fun x => ⟨x.k + 1, askedH x.g, x.told⟩) ?_ ?_ (Weak.list [(1, some 1), (2, some 2), (3, some 3)] [] ?_ ?_ ?_)
    · exact pre14_step hx hlt (by simpa using h) rfl
    · first | omega | (simp at *; omega)
    · kernel_rfl
    · repeat' (first | exact OW.same rfl rfl rfl (toldC_all _) | exact hwk | exact DW.same _ rfl | exact DW.ref _ _ _ rfl | exact DW.arr _ _ _ rfl | exact OW.cells rfl rfl (DWl.same rfl) | refine OW.cells rfl rfl ?_ | refine DWl.cons ?_ ?_ | exact DWl.nil | exact DW.nilArr _ rfl | exact DW.nilLst _ | refine DW.clol ?_ ?_ | refine DW.aggl ?_ | refine DW.tupl ?_ | refine DW.int ?_ | refine DW.bool ?_ | refine DW.str ?_ | refine DW.arrE rfl ?_ | ((conv => whnf); first | refine And.intro ?_ ?_ | trivial))
    · repeat' (first | exact OW.same rfl rfl rfl (toldC_all _) | exact hwk | exact DW.same _ rfl | exact DW.ref _ _ _ rfl | exact DW.arr _ _ _ rfl | exact OW.cells rfl rfl (DWl.same rfl) | refine OW.cells rfl rfl ?_ | refine DWl.cons ?_ ?_ | exact DWl.nil | exact DW.nilArr _ rfl | exact DW.nilLst _ | refine DW.clol ?_ ?_ | refine DW.aggl ?_ | refine DW.tupl ?_ | refine DW.int ?_ | refine DW.bool ?_ | refine DW.str ?_ | refine DW.arrE rfl ?_ | ((conv => whnf); first | refine And.intro ?_ ?_ | trivial))
  · rename_i x hx _ _ _; exact hx.2
  · rename_i x hx hlt _ _
    have hwk := pre_wrap hn hx.1 hlt
    refine Round.go (fun x => ⟨x.k + 1, heardH x.g, x.told⟩) ?_ ?_ (Weak.list [(1, some 1), (2, some 2), (3, some 3)] [] ?_ ?_ ?_)
    · exact pre14_step hx hlt (by simpa using h) rfl
    · first | omega | (simp at *; omega)
    · kernel_rfl
    · repeat' (first | exact OW.same rfl rfl rfl (toldC_all _) | exact hwk | exact DW.same _ rfl | exact DW.ref _ _ _ rfl | exact DW.arr _ _ _ rfl | exact OW.cells rfl rfl (DWl.same rfl) | refine OW.cells rfl rfl ?_ | refine DWl.cons ?_ ?_ | exact DWl.nil | exact DW.nilArr _ rfl | exact DW.nilLst _ | refine DW.clol ?_ ?_ | refine DW.aggl ?_ | refine DW.tupl ?_ | refine DW.int ?_ | refine DW.bool ?_ | refine DW.str ?_ | refine DW.arrE rfl ?_ | ((conv => whnf); first | refine And.intro ?_ ?_ | trivial))
    · repeat' (first | exact OW.same rfl rfl rfl (toldC_all _) | exact hwk | exact DW.same _ rfl | exact DW.ref _ _ _ rfl | exact DW.arr _ _ _ rfl | exact OW.cells rfl rfl (DWl.same rfl) | refine OW.cells rfl rfl ?_ | refine DWl.cons ?_ ?_ | exact DWl.nil | exact DW.nilArr _ rfl | exact DW.nilLst _ | refine DW.clol ?_ ?_ | refine DW.aggl ?_ | refine DW.tupl ?_ | refine DW.int ?_ | refine DW.bool ?_ | refine DW.str ?_ | refine DW.arrE rfl ?_ | ((conv => whnf); first | refine And.intro ?_ ?_ | trivial))
  · rename_i x hx _ _ _ _; exact hx.2
  · rename_i x hx hlt _ _ _
    have hwk := pre_wrap hn hx.1 hlt
    refine Round.go (fun x => ⟨x.k + 1, answeredH x.g, x.told⟩) ?_ ?_ (Weak.list [(1, some 1), (2, some 2), (3, some 3)] [] ?_ ?_ ?_)
    · exact pre14_step hx hlt (by simpa using h) rfl
    · first | omega | (simp at *; omega)
    · kernel_rfl
    · repeat' (first | exact OW.same rfl rfl rfl (toldC_all _) | exact hwk | exact DW.same _ rfl | exact DW.ref _ _ _ rfl | exact DW.arr _ _ _ rfl | exact OW.cells rfl rfl (DWl.same rfl) | refine OW.cells rfl rfl ?_ | refine DWl.cons ?_ ?_ | exact DWl.nil | exact DW.nilArr _ rfl | exact DW.nilLst _ | refine DW.clol ?_ ?_ | refine DW.aggl ?_ | refine DW.tupl ?_ | refine DW.int ?_ | refine DW.bool ?_ | refine DW.str ?_ | refine DW.arrE rfl ?_ | ((conv => whnf); first | refine And.intro ?_ ?_ | trivial))
    · repeat' (first | exact OW.same rfl rfl rfl (toldC_all _) | exact hwk | exact DW.same _ rfl | exact DW.ref _ _ _ rfl | exact DW.arr _ _ _ rfl | exact OW.cells rfl rfl (DWl.same rfl) | refine OW.cells rfl rfl ?_ | refine DWl.cons ?_ ?_ | exact DWl.nil | exact DW.nilArr _ rfl | exact DW.nilLst _ | refine DW.clol ?_ ?_ | refine DW.aggl ?_ | refine DW.tupl ?_ | refine DW.int ?_ | refine DW.bool ?_ | refine DW.str ?_ | refine DW.arrE rfl ?_ | ((conv => whnf); first | refine And.intro ?_ ?_ | trivial))
  · rename_i x hx hlt h1 h2 h3
    have hwk := pre_wrap hn hx.1 hlt
    simp only [beq_eq_false_iff_ne, ne_eq] at h1 h2 h3 h
    refine Round.go (fun x => ⟨x.k + 1, x.g, x.told⟩) ?_ ?_ (Weak.list [(1, some 1), (2, some 2), (3, some 3)] [] ?_ ?_ ?_)
    · exact pre14_step hx hlt rfl (by unfold stepH; rw [if_neg h1, if_neg h2, if_neg h3, if_neg h])
    · first | omega | (simp at *; omega)
    · kernel_rfl
    · repeat' (first | exact OW.same rfl rfl rfl (toldC_all _) | exact hwk | exact DW.same _ rfl | exact DW.ref _ _ _ rfl | exact DW.arr _ _ _ rfl | exact OW.cells rfl rfl (DWl.same rfl) | refine OW.cells rfl rfl ?_ | refine DWl.cons ?_ ?_ | exact DWl.nil | exact DW.nilArr _ rfl | exact DW.nilLst _ | refine DW.clol ?_ ?_ | refine DW.aggl ?_ | refine DW.tupl ?_ | refine DW.int ?_ | refine DW.bool ?_ | refine DW.str ?_ | refine DW.arrE rfl ?_ | ((conv => whnf); first | refine And.intro ?_ ?_ | trivial))
    · repeat' (first | exact OW.same rfl rfl rfl (toldC_all _) | exact hwk | exact DW.same _ rfl | exact DW.ref _ _ _ rfl | exact DW.arr _ _ _ rfl | exact OW.cells rfl rfl (DWl.same rfl) | refine OW.cells rfl rfl ?_ | refine DWl.cons ?_ ?_ | exact DWl.nil | exact DW.nilArr _ rfl | exact DW.nilLst _ | refine DW.clol ?_ ?_ | refine DW.aggl ?_ | refine DW.tupl ?_ | refine DW.int ?_ | refine DW.bool ?_ | refine DW.str ?_ | refine DW.arrE rfl ?_ | ((conv => whnf); first | refine And.intro ?_ ?_ | trivial))
  · rename_i x hx
    have e := pre_done hx.1 h
    refine Tells.of (r1 := .tup [halfD x.g, .lst 1 (x.told.map intD)]) (by rw [e]) (Tells.mk ?_)
    refine DW.tupl (DWl.cons (DW.aggl ?_) (DWl.cons (DW.pubE rfl rfl (by decide) trivial (by simp) (told_rows _) rfl) DWl.nil))
    repeat' (first | exact DW.same _ rfl |  exact DW.nilLst _ | refine DW.tupl ?_ | refine DW.aggl ?_ | refine DWl.cons ?_ ?_ | exact DWl.nil | refine DW.int ?_ | refine DW.bool ?_ | refine DW.str ?_ | refine DW.lstE ?_)
end Go.Proofs.Ytopdllcpeaflaaa
