/- Rows of what happens: Play. -/
import Derived.Test.YtopdllcpeaflaaaH1
namespace Go.Proofs.Ytopdllcpeaflaaa
open Go.RowKit Go.Dl
attribute [local irreducible] Tri SCall DFun QSem PCall GCall MCall Round Weak dloadE OW DWl Tells darr dcell IntKind.wrap Retold

def playSt (l : List Int) (x : PlayI) : St :=
  ⟨0, tmOf [(4, .ref 1 0), (6, .ref 3 0), (7, .arr 4 4), (22, .lst 1 (l.map intD)), (23, .v (.int .i64 (l.map intD).length)), (24, .v (.int .i64 x.k))], .of (playSto 5 x.g x.told) 6⟩
def playPre (hf : HalfL) (l : List Int) (x : PlayI) : Prop :=
  x.k ≤ l.length ∧ 0 ≤ x.g.miss ∧ x.g.miss < 3 ∧ x.told.length ≤ x.k ∧ playH (l.drop x.k) x.g x.told = playH l hf []

theorem kfacts {kk : Int} (h : (bif decide (kk < 1) then true else decide (((4 : Nat) : Int) < kk)) = false) : 1 ≤ kk ∧ kk ≤ 4 ∧ IntKind.i64.wrap (kk - 1) = kk - 1 := by
  simp at h
  exact ⟨by omega, by omega, wrapS (by omega) (by omega)⟩

theorem turnH_miss (g : HalfL) (h0 : 0 ≤ g.miss) (h3 : g.miss < 3) : 0 ≤ (turnH g).1.miss ∧ (turnH g).1.miss < 3 := by
  unfold turnH; repeat' split
  all_goals first | exact ⟨by decide, by decide⟩ | exact ⟨h0, h3⟩ | (simp; omega)
theorem step_miss (g : HalfL) (told : List Int) (k : Int) (h0 : 0 ≤ g.miss) (h3 : g.miss < 3) : 0 ≤ (stepH g told k).1.1.miss ∧ (stepH g told k).1.1.miss < 3 := by
  unfold stepH; repeat' split
  all_goals first | exact turnH_miss g h0 h3 | exact ⟨h0, h3⟩ | exact ⟨Int.le_refl 0, (by decide : (0 : Int) < 3)⟩
theorem step_told (g : HalfL) (told : List Int) (k : Int) : (stepH g told k).1.2.length ≤ told.length + 1 := by
  unfold stepH
  split
  · simp
  · repeat' split
    all_goals simp
theorem playH_at (l : List Int) (k : Nat) (g : HalfL) (told : List Int) (hk : k < l.length) : playH (l.drop k) g told = if (stepH g told (l.getD k 0)).2 = true then (stepH g told (l.getD k 0)).1 else playH (l.drop (k + 1)) (stepH g told (l.getD k 0)).1.1 (stepH g told (l.getD k 0)).1.2 := by
  rw [List.drop_eq_getElem_cons hk]
  have e : l.getD k 0 = l[k] := by simp [List.getD_eq_getElem?_getD, List.getElem?_eq_getElem hk]
  rw [e]; rfl
theorem told_rows (told : List Int) : ∀ r ∈ told.map intD, r.length = 1 ∧ r.all isData1 = true := fun r hr => by
  obtain ⟨x, _, rfl⟩ := List.mem_map.1 hr
  exact ⟨rfl, rfl⟩
theorem pre_wrap {hf : HalfL} {l : List Int} {x : PlayI} (hn : l.length * 8 ≤ 140737488355328) (h : playPre hf l x) (hlt : decide ((x.k : Int) < ((l.map intD).length : Int)) = true) : IntKind.i64.wrap ((x.k : Int) + 1) = ((x.k + 1 : Nat) : Int) := by
  have := h.1
  have := wrap64 (k := x.k + 1) (by omega)
  simpa using this
theorem pre_step {hf : HalfL} {l : List Int} {x : PlayI} {kk : Int} (h : playPre hf l x) (hlt : decide ((x.k : Int) < ((l.map intD).length : Int)) = true) (hk : l.getD (x.k : Int).toNat 0 = kk) {g : HalfL} {told : List Int} (hs : stepH x.g x.told kk = ((g, told), false)) :
    playPre hf l ⟨x.k + 1, g, told⟩ := by
  obtain ⟨h1, h2, h3, h4, h5⟩ := h
  simp at hlt hk
  rw [playH_at _ _ _ _ hlt] at h5
  have e : l.getD x.k 0 = kk := by simpa using hk
  rw [e, hs] at h5
  have m := step_miss x.g x.told kk h2 h3
  have t := step_told x.g x.told kk
  rw [hs] at m t
  refine ⟨by simp only; omega, m.1, m.2, ?_, by simpa using h5⟩
  simp only at t ⊢; omega
theorem pre_end {hf : HalfL} {l : List Int} {x : PlayI} {kk : Int} (h : playPre hf l x) (hlt : decide ((x.k : Int) < ((l.map intD).length : Int)) = true) (hk : l.getD (x.k : Int).toNat 0 = kk) {g : HalfL} {told : List Int} (hs : stepH x.g x.told kk = ((g, told), true)) :
    playH l hf [] = (g, told) := by
  obtain ⟨h1, h2, h3, h4, h5⟩ := h
  simp at hlt hk
  rw [playH_at _ _ _ _ hlt] at h5
  have e : l.getD x.k 0 = kk := by simpa using hk
  rw [e, hs] at h5
  simpa using h5.symm
theorem pre_done {hf : HalfL} {l : List Int} {x : PlayI} (h : playPre hf l x) (hlt : decide ((x.k : Int) < ((l.map intD).length : Int)) = false) : playH l hf [] = (x.g, x.told) := by
  obtain ⟨h1, h2, h3, h4, h5⟩ := h
  simp at hlt
  have : x.k = l.length := by omega
  rw [this, List.drop_length] at h5
  exact h5.symm
theorem told_last {told : List Int} {w : Int} (hw : IntKind.i64.wrap ((told ++ [w]).length - 1) = ((told.length : Nat) : Int)) : (toldC (told ++ [w]))[(IntKind.i64.wrap (((told ++ [w]).length : Int) - 1)).toNat * 1]? = some (.v (.int .i64 w)) := by
  rw [hw, ← toldC_add]
  have := toldC_len told
  simp [← this]
set_option maxHeartbeats 1000000 in
theorem play_D (hf : HalfL) (l : List Int) (hl : hf.lines.length ≤ 1000000) (h0 : 0 ≤ hf.miss) (h3 : hf.miss < 3) (hn : l.length * 8 ≤ 140737488355328) :
    DPure Try.prog 13 [halfD hf, .lst 1 (l.map intD)] (.tup [halfD (playH l hf []).1, .lst 1 ((playH l hf []).2.map intD)]) := by
  refine DFun.data (DFun.body Try.func13 rfl (by kernel_rfl) ?_)
  repeat' (first | with_reducible rfl | ((conv => whnf); first | refine And.intro ?_ ?_ | (intro h; first | exact Bool.noConfusion h | with_reducible exact h | (have ht : true = true := h; clear ht h) | skip) | ((with_reducible refine DWl.mark ?_); repeat' (first | refine DWl.cons ?_ ?_ | exact DWl.nil | exact DW.same _ rfl | exact DW.ref _ _ _ rfl | exact DW.arr _ _ _ rfl | exact DW.sub _ _ _ _ rfl | exact DW.nilLst _ | refine DW.aggl ?_ | refine DW.tupl ?_ | refine DW.clol ?_ ?_ | refine DW.int ?_ | refine DW.bool ?_ | refine DW.str ?_)) | ((with_reducible refine SCall.mark ?_); first | refine SCall.run Try.func45 rfl (Nat.le_of_ble_eq_true rfl) (by kernel_rfl) ?_ | refine SCall.data (clone_D hf.lines hl) rfl rfl ?_ | refine turn_P _ _ _ ?_ ?_ ?_ ?_ | refine SCall.run Try.func47 rfl (Nat.le_of_ble_eq_true rfl) (by kernel_rfl) ?_ | refine SCall.run Try.func48 rfl (Nat.le_of_ble_eq_true rfl) (by kernel_rfl) ?_ | refine SCall.run Try.func49 rfl (Nat.le_of_ble_eq_true rfl) (by kernel_rfl) ?_) | ((with_reducible refine GCall.mark ?_); first | refine GCall.data (fun _ => clone_D hf.lines hl) rfl rfl ?_) | ((with_reducible refine MCall.mark ?_); first | refine MCall.data (fun _ => clone_D hf.lines hl) rfl rfl ?_) | ((with_reducible refine Tri.mark ?_); first | refine Tri.scope (by kernel_rfl) ?_ | refine Tri.loop (playSt l) (playPre hf l) (fun x => l.length - x.k) (⟨0, hf, []⟩) (by kernel_rfl) (Weak.list [(1, some 1), (3, some 3), (4, some 4), (5, none)] [] ?_ ?_ ?_) ?_ ?_ | (refine Tri.movesN [1] [(true, 0), (true, 1), (true, 2), (true, 3), (true, 4), (true, 5), (true, 6), (true, 7), (false, 8), (true, 9)] ?_ (by kernel_rfl) ?_; rfl)) | refine dloadE_map (0) ?_ ?_ | refine darr_split (len := 4) ?_ ?_ | refine darr_go ?_ ?_ | refine dcell_ok rfl ?_ | refine AppC.new ?_ | refine dcell_int ?_ ?_))
  all_goals first | rfl | trivial | assumption | exact Nat.le_of_ble_eq_true rfl | (show entersB _ _ = true; kernel_rfl) | exact DW.same _ rfl | exact DW.ref _ _ _ rfl | exact DW.arr _ _ _ rfl | refine DW.int ?_ | refine dvb ?_ | exact OW.cells rfl rfl (DWl.same rfl) | exact Nat.zero_le _ | omega | skip
  all_goals repeat' (first | refine OW.cells rfl rfl ?_ | exact DW.nilArr _ rfl | refine DW.clol ?_ ?_ | refine DWl.cons ?_ ?_ | exact DWl.nil | exact DW.same _ rfl | exact DW.ref _ _ _ rfl | exact DW.arr _ _ _ rfl)
  all_goals try (exfalso; obtain ⟨f1, f2, f3⟩ := kfacts (by assumption); simp [f3] at *; omega)
  all_goals try ((conv => whnf); with_reducible refine Round.mark ?_)
  · simp at *; omega
  · simp at *; omega
  · simp_all
  · rename_i x hx hlt
    have hwk := pre_wrap hn hx hlt
    refine Round.go (fun x => ⟨x.k + 1, x.g, x.told⟩) ?_ ?_ (Weak.list [(1, some 1), (3, some 3), (4, some 4), (5, some 5)] [] ?_ ?_ ?_)
    · refine pre_step hx hlt rfl ?_
      generalize l.getD (x.k : Int).toNat 0 = kk at h ⊢
      simp at h
      unfold stepH
      rw [if_neg (by omega), if_neg (by omega), if_neg (by omega), if_neg (by omega)]
    · first | omega | (simp at *; omega)
    · kernel_rfl
    · repeat' (first | exact OW.same rfl rfl rfl (toldC_all _) | exact hwk | exact DW.same _ rfl | exact DW.ref _ _ _ rfl | exact DW.arr _ _ _ rfl | exact OW.cells rfl rfl (DWl.same rfl) | refine OW.cells rfl rfl ?_ | refine DWl.cons ?_ ?_ | exact DWl.nil | exact DW.nilArr _ rfl | exact DW.nilLst _ | refine DW.clol ?_ ?_ | refine DW.aggl ?_ | refine DW.tupl ?_ | refine DW.int ?_ | refine DW.bool ?_ | refine DW.str ?_ | refine DW.arrE rfl ?_ | ((conv => whnf); first | refine And.intro ?_ ?_ | trivial))
    · repeat' (first | exact OW.same rfl rfl rfl (toldC_all _) | exact hwk | exact DW.same _ rfl | exact DW.ref _ _ _ rfl | exact DW.arr _ _ _ rfl | exact OW.cells rfl rfl (DWl.same rfl) | refine OW.cells rfl rfl ?_ | refine DWl.cons ?_ ?_ | exact DWl.nil | exact DW.nilArr _ rfl | exact DW.nilLst _ | refine DW.clol ?_ ?_ | refine DW.aggl ?_ | refine DW.tupl ?_ | refine DW.int ?_ | refine DW.bool ?_ | refine DW.str ?_ | refine DW.arrE rfl ?_ | ((conv => whnf); first | refine And.intro ?_ ?_ | trivial))
  · obtain ⟨f1, f2, f3⟩ := kfacts h; omega
  · obtain ⟨f1, f2, f3⟩ := kfacts h; omega
  · rename_i x hx _ _; exact hx.2.1
  · rename_i x hx _ _; exact hx.2.2.1
  · rename_i x hx hlt _; have := hx.2.2.2.1; simp at hlt; omega
  · rename_i x hx hlt _ _; have := hx.2.2.2.1; simp at hlt; rw [List.length_append, List.length_singleton, Int.natCast_add, Int.natCast_one, Int.add_sub_cancel, wrap64 (by omega)]; omega
  · rename_i x hx hlt _ _; have := hx.2.2.2.1; simp at hlt; rw [List.length_append, List.length_singleton, Int.natCast_add, Int.natCast_one, Int.add_sub_cancel, wrap64 (by omega)]; omega
  · rename_i x hx hlt _ _; have := hx.2.2.2.1; simp at hlt
    exact ⟨_, told_last (by rw [List.length_append, List.length_singleton, Int.natCast_add, Int.natCast_one, Int.add_sub_cancel, wrap64 (by omega)])⟩
  · simp_all
  · rename_i x hx hlt h1 h2
    have hm := step_told x.g x.told 1
    have hlen := hx.2.2.2.1
    have hw : IntKind.i64.wrap (((x.told ++ [(turnH x.g).2]).length : Int) - 1) = (x.told.length : Int) := by
      simp at hlt; rw [List.length_append, List.length_singleton, Int.natCast_add, Int.natCast_one, Int.add_sub_cancel, wrap64 (by omega)]
    have hl := told_last (told := x.told) (w := (turnH x.g).2) hw
    have hkk : l.getD (x.k : Int).toNat 0 = 1 := by obtain ⟨f1, f2, f3⟩ := kfacts h1; rw [f3] at h2; replace h2 : l.getD (x.k : Int).toNat 0 - 1 = 0 := h2; omega
    have ht : (turnH x.g).2 = 2 := by
      replace h : (bif l.getD (x.k : Int).toNat 0 == 1 then intAt (toldC (x.told ++ [(turnH x.g).2])) ((IntKind.i64.wrap (((x.told ++ [(turnH x.g).2]).length : Int) - 1)).toNat * 1) == 2 else false) = true := h
      rw [hkk, intAt, hl] at h
      simpa using h
    have e := pre_end hx hlt hkk (g := (turnH x.g).1) (told := x.told ++ [(turnH x.g).2]) (by simp [stepH, ht])
    refine Tells.of (r1 := .tup [halfD (turnH x.g).1, .lst 1 ((x.told ++ [(turnH x.g).2]).map intD)]) (by rw [e]) (Tells.mk ?_)
    refine DW.tupl (DWl.cons (DW.aggl ?_) (DWl.cons (DW.pubE rfl rfl (by decide) trivial (by simp) (told_rows _) rfl) DWl.nil))
    repeat' (first | exact DW.same _ rfl |  exact DW.nilLst _ | refine DW.tupl ?_ | refine DW.aggl ?_ | refine DWl.cons ?_ ?_ | exact DWl.nil | refine DW.int ?_ | refine DW.bool ?_ | refine DW.str ?_ | refine DW.lstE ?_)
  · rename_i x hx hlt h1 h2
    have hwk := pre_wrap hn hx hlt
    have hm := step_told x.g x.told 1
    have hlen := hx.2.2.2.1
    have hw : IntKind.i64.wrap (((x.told ++ [(turnH x.g).2]).length : Int) - 1) = (x.told.length : Int) := by
      simp at hlt; rw [List.length_append, List.length_singleton, Int.natCast_add, Int.natCast_one, Int.add_sub_cancel, wrap64 (by omega)]
    have hl := told_last (told := x.told) (w := (turnH x.g).2) hw
    have hkk : l.getD (x.k : Int).toNat 0 = 1 := by obtain ⟨f1, f2, f3⟩ := kfacts h1; rw [f3] at h2; replace h2 : l.getD (x.k : Int).toNat 0 - 1 = 0 := h2; omega
    have ht : ¬ (turnH x.g).2 = 2 := by
      replace h : (bif l.getD (x.k : Int).toNat 0 == 1 then intAt (toldC (x.told ++ [(turnH x.g).2])) ((IntKind.i64.wrap (((x.told ++ [(turnH x.g).2]).length : Int) - 1)).toNat * 1) == 2 else false) = false := h
      rw [hkk, intAt, hl] at h
      simpa using h
    refine Round.go (fun x => ⟨x.k + 1, (turnH x.g).1, x.told ++ [(turnH x.g).2]⟩) ?_ ?_ (Weak.list [(1, some 1), (3, some 3), (4, some 4), (5, some 7)] [] ?_ ?_ ?_)
    · exact pre_step hx hlt hkk (by simp [stepH, ht])
    · first | omega | (simp at *; omega)
    · kernel_rfl
    · repeat' (first | exact OW.same rfl rfl rfl (toldC_all _) | exact hwk | exact DW.same _ rfl | exact DW.ref _ _ _ rfl | exact DW.arr _ _ _ rfl | exact OW.cells rfl rfl (DWl.same rfl) | refine OW.cells rfl rfl ?_ | refine DWl.cons ?_ ?_ | exact DWl.nil | exact DW.nilArr _ rfl | exact DW.nilLst _ | refine DW.clol ?_ ?_ | refine DW.aggl ?_ | refine DW.tupl ?_ | refine DW.int ?_ | refine DW.bool ?_ | refine DW.str ?_ | refine DW.arrE rfl ?_ | ((conv => whnf); first | refine And.intro ?_ ?_ | trivial))
    · repeat' (first | exact OW.same rfl rfl rfl (toldC_all _) | exact hwk | exact DW.same _ rfl | exact DW.ref _ _ _ rfl | exact DW.arr _ _ _ rfl | exact OW.cells rfl rfl (DWl.same rfl) | refine OW.cells rfl rfl ?_ | refine DWl.cons ?_ ?_ | exact DWl.nil | exact DW.nilArr _ rfl | exact DW.nilLst _ | refine DW.clol ?_ ?_ | refine DW.aggl ?_ | refine DW.tupl ?_ | refine DW.int ?_ | refine DW.bool ?_ | refine DW.str ?_ | refine DW.arrE rfl ?_ | ((conv => whnf); first | refine And.intro ?_ ?_ | trivial))
  · rename_i x hx hlt h1 h2
    have hwk := pre_wrap hn hx hlt
    have hkk : l.getD (x.k : Int).toNat 0 = 2 := by obtain ⟨f1, f2, f3⟩ := kfacts h1; rw [f3] at h2; replace h2 : l.getD (x.k : Int).toNat 0 - 1 = 1 := h2; omega
    refine Round.go (fun x => ⟨x.k + 1, askedH x.g, x.told⟩) ?_ ?_ (Weak.list [(1, some 1), (3, some 3), (4, some 4), (5, some 5)] [] ?_ ?_ ?_)
    · exact pre_step hx hlt hkk rfl
    · first | omega | (simp at *; omega)
    · kernel_rfl
    · repeat' (first | exact OW.same rfl rfl rfl (toldC_all _) | exact hwk | exact DW.same _ rfl | exact DW.ref _ _ _ rfl | exact DW.arr _ _ _ rfl | exact OW.cells rfl rfl (DWl.same rfl) | refine OW.cells rfl rfl ?_ | refine DWl.cons ?_ ?_ | exact DWl.nil | exact DW.nilArr _ rfl | exact DW.nilLst _ | refine DW.clol ?_ ?_ | refine DW.aggl ?_ | refine DW.tupl ?_ | refine DW.int ?_ | refine DW.bool ?_ | refine DW.str ?_ | refine DW.arrE rfl ?_ | ((conv => whnf); first | refine And.intro ?_ ?_ | trivial))
    · repeat' (first | exact OW.same rfl rfl rfl (toldC_all _) | exact hwk | exact DW.same _ rfl | exact DW.ref _ _ _ rfl | exact DW.arr _ _ _ rfl | exact OW.cells rfl rfl (DWl.same rfl) | refine OW.cells rfl rfl ?_ | refine DWl.cons ?_ ?_ | exact DWl.nil | exact DW.nilArr _ rfl | exact DW.nilLst _ | refine DW.clol ?_ ?_ | refine DW.aggl ?_ | refine DW.tupl ?_ | refine DW.int ?_ | refine DW.bool ?_ | refine DW.str ?_ | refine DW.arrE rfl ?_ | ((conv => whnf); first | refine And.intro ?_ ?_ | trivial))
  · rename_i x hx hlt h1 h2
    have hwk := pre_wrap hn hx hlt
    have hkk : l.getD (x.k : Int).toNat 0 = 3 := by obtain ⟨f1, f2, f3⟩ := kfacts h1; rw [f3] at h2; replace h2 : l.getD (x.k : Int).toNat 0 - 1 = 2 := h2; omega
    refine Round.go (fun x => ⟨x.k + 1, heardH x.g, x.told⟩) ?_ ?_ (Weak.list [(1, some 1), (3, some 3), (4, some 4), (5, some 5)] [] ?_ ?_ ?_)
    · exact pre_step hx hlt hkk rfl
    · first | omega | (simp at *; omega)
    · kernel_rfl
    · repeat' (first | exact OW.same rfl rfl rfl (toldC_all _) | exact hwk | exact DW.same _ rfl | exact DW.ref _ _ _ rfl | exact DW.arr _ _ _ rfl | exact OW.cells rfl rfl (DWl.same rfl) | refine OW.cells rfl rfl ?_ | refine DWl.cons ?_ ?_ | exact DWl.nil | exact DW.nilArr _ rfl | exact DW.nilLst _ | refine DW.clol ?_ ?_ | refine DW.aggl ?_ | refine DW.tupl ?_ | refine DW.int ?_ | refine DW.bool ?_ | refine DW.str ?_ | refine DW.arrE rfl ?_ | ((conv => whnf); first | refine And.intro ?_ ?_ | trivial))
    · repeat' (first | exact OW.same rfl rfl rfl (toldC_all _) | exact hwk | exact DW.same _ rfl | exact DW.ref _ _ _ rfl | exact DW.arr _ _ _ rfl | exact OW.cells rfl rfl (DWl.same rfl) | refine OW.cells rfl rfl ?_ | refine DWl.cons ?_ ?_ | exact DWl.nil | exact DW.nilArr _ rfl | exact DW.nilLst _ | refine DW.clol ?_ ?_ | refine DW.aggl ?_ | refine DW.tupl ?_ | refine DW.int ?_ | refine DW.bool ?_ | refine DW.str ?_ | refine DW.arrE rfl ?_ | ((conv => whnf); first | refine And.intro ?_ ?_ | trivial))
  · rename_i x hx hlt h1 h2
    have hwk := pre_wrap hn hx hlt
    have hkk : l.getD (x.k : Int).toNat 0 = 4 := by obtain ⟨f1, f2, f3⟩ := kfacts h1; rw [f3] at h2; replace h2 : l.getD (x.k : Int).toNat 0 - 1 = 3 := h2; omega
    refine Round.go (fun x => ⟨x.k + 1, answeredH x.g, x.told⟩) ?_ ?_ (Weak.list [(1, some 1), (3, some 3), (4, some 4), (5, some 5)] [] ?_ ?_ ?_)
    · exact pre_step hx hlt hkk rfl
    · first | omega | (simp at *; omega)
    · kernel_rfl
    · repeat' (first | exact OW.same rfl rfl rfl (toldC_all _) | exact hwk | exact DW.same _ rfl | exact DW.ref _ _ _ rfl | exact DW.arr _ _ _ rfl | exact OW.cells rfl rfl (DWl.same rfl) | refine OW.cells rfl rfl ?_ | refine DWl.cons ?_ ?_ | exact DWl.nil | exact DW.nilArr _ rfl | exact DW.nilLst _ | refine DW.clol ?_ ?_ | refine DW.aggl ?_ | refine DW.tupl ?_ | refine DW.int ?_ | refine DW.bool ?_ | refine DW.str ?_ | refine DW.arrE rfl ?_ | ((conv => whnf); first | refine And.intro ?_ ?_ | trivial))
    · repeat' (first | exact OW.same rfl rfl rfl (toldC_all _) | exact hwk | exact DW.same _ rfl | exact DW.ref _ _ _ rfl | exact DW.arr _ _ _ rfl | exact OW.cells rfl rfl (DWl.same rfl) | refine OW.cells rfl rfl ?_ | refine DWl.cons ?_ ?_ | exact DWl.nil | exact DW.nilArr _ rfl | exact DW.nilLst _ | refine DW.clol ?_ ?_ | refine DW.aggl ?_ | refine DW.tupl ?_ | refine DW.int ?_ | refine DW.bool ?_ | refine DW.str ?_ | refine DW.arrE rfl ?_ | ((conv => whnf); first | refine And.intro ?_ ?_ | trivial))
  · rename_i x hx
    have e := pre_done hx h
    refine Tells.of (r1 := .tup [halfD x.g, .lst 1 (x.told.map intD)]) (by rw [e]) (Tells.mk ?_)
    refine DW.tupl (DWl.cons (DW.aggl ?_) (DWl.cons (DW.pubE rfl rfl (by decide) trivial (by simp) (told_rows _) rfl) DWl.nil))
    repeat' (first | exact DW.same _ rfl |  exact DW.nilLst _ | refine DW.tupl ?_ | refine DW.aggl ?_ | refine DWl.cons ?_ ?_ | exact DWl.nil | refine DW.int ?_ | refine DW.bool ?_ | refine DW.str ?_ | refine DW.lstE ?_)
end Go.Proofs.Ytopdllcpeaflaaa
