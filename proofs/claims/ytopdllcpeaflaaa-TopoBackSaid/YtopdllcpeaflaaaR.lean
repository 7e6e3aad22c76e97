/- Rows that fit a node. -/
import Derived.Test.YtopdllcpeaflaaaQ
namespace Go.Proofs.Ytopdllcpeaflaaa
open Go.RowKit Go.Dl
attribute [local irreducible] Tri SCall DFun QSem PCall GCall MCall Round Weak dloadE OW DWl Tells IntKind.wrap Retold ESem

def okAt (id : Int) (l : List Int) (i : Nat) : Bool := nodeB (l.getD i 0) && !(l.getD i 0 == id) && !hasB (l.take i) (l.getD i 0)
def fitT (id : Int) (l : List Int) (turn : Int) : Bool :=
  nodeB id && decide (l.length ≤ 6) && decide (0 ≤ turn) && decide (turn < (max l.length 1 : Nat)) && decide (∀ i, i < l.length → okAt id l i = true)

theorem takeE (l : List Int) (k : Nat) : ((l.map intD).take k).drop (0 : Int).toNat = (l.take k).map intD := by simp [List.map_take]
theorem contains_E (l : List Int) (v : Int) {es : List (List DV)} (h : es = l.map intD) : DPure Try.prog 54 [.lst 1 es, int1 v] (.v (.bool (hasB l v))) := by
  subst h; exact contains_D l v

theorem place_at {l : List Int} {i : Nat} (hi : i < l.length) : (placeI l (l.getD i 0) == (i : Int)) = !hasB (l.take i) (l.getD i 0) := by
  have e : l.getD i 0 = l[i] := by rw [List.getD_eq_getElem?_getD, List.getElem?_eq_getElem hi]; rfl
  rw [e]
  have hm : l[i] ∈ l := List.getElem_mem hi
  have h1 := idxOf_le (hk := hi) (v := l[i]) rfl
  have h2 := List.idxOf_lt_length_of_mem hm
  have h3 : l[l.idxOf l[i]] = l[i] := List.getElem_idxOf h2
  unfold placeI hasB
  rw [if_pos hm]
  by_cases h : l[i] ∈ l.take i
  · simp only [h, decide_true, Bool.not_true, beq_eq_false_iff_ne, ne_eq, Int.natCast_inj]
    obtain ⟨j, hj, e2⟩ := List.mem_iff_getElem.1 h
    rw [List.getElem_take] at e2
    have hj' : j < i := by simp at hj; omega
    have := idxOf_le (l := l) (v := l[i]) (k := j) (hk := by omega) e2
    omega
  · simp only [h, decide_false, Bool.not_false, beq_iff_eq, Int.natCast_inj]
    rcases Nat.lt_or_ge (l.idxOf l[i]) i with h4 | h4
    · exact absurd (List.mem_iff_getElem.2 ⟨l.idxOf l[i], by simp; omega, by rw [List.getElem_take]; exact h3⟩) h
    · omega

def headB (id : Int) (l : List Int) (turn : Int) : Bool := nodeB id && decide (l.length ≤ 6) && decide (0 ≤ turn) && decide (turn < (max l.length 1 : Nat))
theorem head27 (id : Int) (l : List Int) (turn : Int) : (bif bif bif !nodeB id then true else decide ((6 : Int) < ((l.map intD).length : Nat)) then true else decide (turn < 0) then true else bif decide (0 < turn) then decide (((l.map intD).length : Nat) ≤ turn) else false) = !headB id l turn := by
  unfold headB
  rw [List.length_map]
  cases nodeB id
  · simp
  · rw [Bool.eq_iff_iff]
    simp
    omega
theorem head28 (id : Int) (l : List Int) (turn : Int) : (bif bif bif !nodeB id then true else decide ((6 : Int) < ((l.map intD).length : Nat)) then true else decide (turn < 0) then true else decide ((if (((l.map intD).length : Nat) : Int) < 1 then 1 else (((l.map intD).length : Nat) : Int)) ≤ turn)) = !headB id l turn := by
  unfold headB
  rw [List.length_map]
  cases nodeB id
  · simp
  · rw [Bool.eq_iff_iff]
    simp
    split <;> omega
theorem fitT_head {id : Int} {l : List Int} {turn : Int} (h : headB id l turn = false) : fitT id l turn = false := by
  unfold fitT
  unfold headB at h
  rw [h]; rfl
theorem fitT_no {id : Int} {l : List Int} {turn : Int} {k : Nat} (hk : k < l.length) (h : okAt id l k = false) : fitT id l turn = false := by
  unfold fitT
  simp only [Bool.and_eq_false_iff, decide_eq_false_iff_not]
  exact .inr fun hh => by rw [hh k hk] at h; cases h
theorem fitT_yes {id : Int} {l : List Int} {turn : Int} (h : headB id l turn = true) (hk : ∀ i, i < l.length → okAt id l i = true) : fitT id l turn = true := by
  unfold fitT
  unfold headB at h
  rw [h]; simpa using hk

def fitSt27 (id : Int) (l : List Int) (k : Nat) : St := ⟨0, tmOf [(0, int1 id), (1, ints l), (31, ints l), (32, int1 l.length), (33, int1 k)], .of [] 0⟩
theorem fit27_D (id : Int) (l : List Int) (turn : Int) : DPure Try.prog 27 [int1 id, ints l, int1 turn] (.v (.bool (fitT id l turn))) := by
  refine DFun.bound 1 rfl fun ha => ?_
  have ha : l.length ≤ 9223372036854775807 := by simpa [maxLen] using ha
  refine DFun.body Try.func27 rfl (by kernel_rfl) ?_
  repeat' (first | with_reducible rfl | ((conv => whnf); first | refine And.intro ?_ ?_ | (intro h; first | exact Bool.noConfusion h | with_reducible exact h | (have ht : true = true := h; clear ht h) | skip) | ((with_reducible refine DWl.mark ?_); repeat' (first | refine DWl.cons ?_ ?_ | exact DWl.nil | exact DW.same _ rfl | exact DW.ref _ _ _ rfl | exact DW.arr _ _ _ rfl | exact DW.sub _ _ _ _ rfl | exact DW.nilLst _ | refine DW.aggl ?_ | refine DW.tupl ?_ | refine DW.clol ?_ ?_ | refine DW.int ?_ | refine DW.bool ?_ | refine DW.str ?_)) | ((with_reducible refine SCall.mark ?_); first | refine SCall.data (node53_D _) rfl rfl ?_ | refine SCall.scal (node53_D _) rfl rfl ?_ | refine SCall.data (contains_E _ _ (takeE l _)) rfl rfl ?_ | refine SCall.scal (contains_E _ _ (takeE l _)) rfl rfl ?_) | ((with_reducible refine PCall.mark ?_); first | refine PCall.mk (node53_D _) rfl rfl ?_ | refine PCall.mk (contains_E _ _ (takeE l _)) rfl rfl ?_) | ((with_reducible refine GCall.mark ?_); first | refine GCall.data (fun _ => node53_D _) rfl rfl ?_ | refine GCall.scal (fun _ => node53_D _) rfl rfl ?_ | refine GCall.data (fun _ => contains_E _ _ (takeE l _)) rfl rfl ?_ | refine GCall.scal (fun _ => contains_E _ _ (takeE l _)) rfl rfl ?_) | ((with_reducible refine MCall.mark ?_); first | refine MCall.data (fun _ => node53_D _) rfl rfl ?_ | refine MCall.plain (PCall.mk (node53_D _) rfl rfl ?_) | refine MCall.data (fun _ => contains_E _ _ (takeE l _)) rfl rfl ?_ | refine MCall.plain (PCall.mk (contains_E _ _ (takeE l _)) rfl rfl ?_)) | ((with_reducible refine Tri.mark ?_); first | refine Tri.loop (fitSt27 id l) (fun k => k ≤ l.length ∧ ∀ j, j < k → okAt id l j = true) (fun k => l.length - k) (0) (by kernel_rfl) (Weak.list [] [] ?_ ?_ ?_) ?_ ?_) | ((with_reducible refine Round.mark ?_); first | refine Round.go ((· + 1)) ?_ ?_ (Weak.list [] [] ?_ ?_ ?_)) | refine dloadE_map (0) ?_ ?_ | refine dcell_ok rfl ?_ | refine AppC.new ?_))
  all_goals first | (with_reducible refine enters_mark ?_; kernel_rfl) | (with_reducible refine boolT_mark ?_; kernel_rfl) | rfl | trivial | assumption | exact Nat.le_of_ble_eq_true rfl | (show entersB _ _ = true; kernel_rfl) | exact DW.same _ rfl | exact DW.ref _ _ _ rfl | exact DW.arr _ _ _ rfl | refine DW.int ?_ | refine dvb ?_ | refine dvi ?_ | exact OW.cells rfl rfl (DWl.same rfl) | skip
  all_goals repeat' (first | exact OW.cells rfl rfl (DWl.same rfl) | refine OW.cells rfl rfl ?_ | exact DW.nilArr _ rfl | refine DW.clol ?_ ?_ | refine DWl.cons ?_ ?_ | exact DWl.nil | exact DW.same _ rfl | exact DW.ref _ _ _ rfl | exact DW.arr _ _ _ rfl | refine DW.int ?_)
  all_goals try (simp_all; done)
  all_goals try (simp at *; omega)
  · have h1 := (head27 id l turn).symm.trans h
    simp at h1
    exact (fitT_head h1).symm
  · rename_i e0 k hk e1
    simp at e1
    have h1 : okAt id l k = false := by
      rw [← Bool.not_eq_true']
      refine Eq.trans ?_ h
      have := place_at (l := l) (i := k) e1
      simp only [okAt, Int.toNat_natCast, bne, this]
      cases nodeB (l.getD k 0) <;> cases l.getD k 0 == id <;> simp
    exact (fitT_no e1 h1).symm
  · rename_i e0 k hk e1 e2 j
    simp at e1
    rcases Nat.lt_or_ge j k with hj | hj
    · exact hk.2 j hj
    · have : j = k := by omega
      subst this
      have h1 : (!okAt id l j) = false := by
        refine Eq.trans ?_ e2
        have := place_at (l := l) (i := j) e1
        simp only [okAt, Int.toNat_natCast, bne, this]
        cases nodeB (l.getD j 0) <;> cases l.getD j 0 == id <;> simp
      simpa using h1
  · rename_i e0 k hk e1
    simp at e1
    have := wrap64 (k := k + 1) (by omega)
    simpa using this
  · rename_i e0 k hk
    simp at h
    have h1 := (head27 id l turn).symm.trans e0
    simp at h1
    exact (fitT_yes h1 fun i hi => hk.2 i (by omega)).symm
def fitSt28 (id : Int) (l : List Int) (k : Nat) : St := ⟨0, tmOf [(0, int1 id), (1, ints l), (7, int1 k)], .of [] 0⟩
theorem fit28_D (id : Int) (l : List Int) (turn : Int) : DPure Try.prog 28 [int1 id, ints l, int1 turn] (.v (.bool (fitT id l turn))) := by
  refine DFun.bound 1 rfl fun ha => ?_
  have ha : l.length ≤ 9223372036854775807 := by simpa [maxLen] using ha
  refine DFun.body Try.func28 rfl (by kernel_rfl) ?_
  repeat' (first | with_reducible rfl | ((conv => whnf); first | refine And.intro ?_ ?_ | (intro h; first | exact Bool.noConfusion h | with_reducible exact h | (have ht : true = true := h; clear ht h) | skip) | ((with_reducible refine DWl.mark ?_); repeat' (first | refine DWl.cons ?_ ?_ | exact DWl.nil | exact DW.same _ rfl | exact DW.ref _ _ _ rfl | exact DW.arr _ _ _ rfl | exact DW.sub _ _ _ _ rfl | exact DW.nilLst _ | refine DW.aggl ?_ | refine DW.tupl ?_ | refine DW.clol ?_ ?_ | refine DW.int ?_ | refine DW.bool ?_ | refine DW.str ?_)) | ((with_reducible refine SCall.mark ?_); first | refine SCall.data (node55_D _) rfl rfl ?_ | refine SCall.scal (node55_D _) rfl rfl ?_ | refine SCall.data (place_D l _) rfl rfl ?_ | refine SCall.scal (place_D l _) rfl rfl ?_) | ((with_reducible refine PCall.mark ?_); first | refine PCall.mk (node55_D _) rfl rfl ?_ | refine PCall.mk (place_D l _) rfl rfl ?_) | ((with_reducible refine GCall.mark ?_); first | refine GCall.data (fun _ => node55_D _) rfl rfl ?_ | refine GCall.scal (fun _ => node55_D _) rfl rfl ?_ | refine GCall.data (fun _ => place_D l _) rfl rfl ?_ | refine GCall.scal (fun _ => place_D l _) rfl rfl ?_) | ((with_reducible refine MCall.mark ?_); first | refine MCall.data (fun _ => node55_D _) rfl rfl ?_ | refine MCall.plain (PCall.mk (node55_D _) rfl rfl ?_) | refine MCall.data (fun _ => place_D l _) rfl rfl ?_ | refine MCall.plain (PCall.mk (place_D l _) rfl rfl ?_)) | ((with_reducible refine Tri.mark ?_); first | refine Tri.loop (fitSt28 id l) (fun k => k ≤ l.length ∧ ∀ j, j < k → okAt id l j = true) (fun k => l.length - k) (0) (by kernel_rfl) (Weak.list [] [] ?_ ?_ ?_) ?_ ?_) | ((with_reducible refine Round.mark ?_); first | refine Round.go ((· + 1)) ?_ ?_ (Weak.list [] [] ?_ ?_ ?_)) | refine dloadE_map (0) ?_ ?_ | refine dcell_ok rfl ?_ | refine AppC.new ?_))
  all_goals first | (with_reducible refine enters_mark ?_; kernel_rfl) | (with_reducible refine boolT_mark ?_; kernel_rfl) | rfl | trivial | assumption | exact Nat.le_of_ble_eq_true rfl | (show entersB _ _ = true; kernel_rfl) | exact DW.same _ rfl | exact DW.ref _ _ _ rfl | exact DW.arr _ _ _ rfl | refine DW.int ?_ | refine dvb ?_ | refine dvi ?_ | exact OW.cells rfl rfl (DWl.same rfl) | skip
  all_goals repeat' (first | exact OW.cells rfl rfl (DWl.same rfl) | refine OW.cells rfl rfl ?_ | exact DW.nilArr _ rfl | refine DW.clol ?_ ?_ | refine DWl.cons ?_ ?_ | exact DWl.nil | exact DW.same _ rfl | exact DW.ref _ _ _ rfl | exact DW.arr _ _ _ rfl | refine DW.int ?_)
  all_goals try (simp_all; done)
  all_goals try (simp at *; omega)
  · have h1 := (head28 id l turn).symm.trans h
    simp at h1
    exact (fitT_head h1).symm
  · rename_i e0 k hk e1
    simp at e1
    have h1 : okAt id l k = false := by
      rw [← Bool.not_eq_true']
      refine Eq.trans ?_ h
      have := place_at (l := l) (i := k) e1
      simp only [okAt, Int.toNat_natCast, bne, this]
      cases nodeB (l.getD k 0) <;> cases l.getD k 0 == id <;> simp
    exact (fitT_no e1 h1).symm
  · rename_i e0 k hk e1 e2 j
    simp at e1
    rcases Nat.lt_or_ge j k with hj | hj
    · exact hk.2 j hj
    · have : j = k := by omega
      subst this
      have h1 : (!okAt id l j) = false := by
        refine Eq.trans ?_ e2
        have := place_at (l := l) (i := j) e1
        simp only [okAt, Int.toNat_natCast, bne, this]
        cases nodeB (l.getD j 0) <;> cases l.getD j 0 == id <;> simp
      simpa using h1
  · rename_i e0 k hk e1
    simp at e1
    have := wrap64 (k := k + 1) (by omega)
    simpa using this
  · rename_i e0 k hk
    simp at h
    have h1 := (head28 id l turn).symm.trans e0
    simp at h1
    exact (fitT_yes h1 fun i hi => hk.2 i (by omega)).symm
end Go.Proofs.Ytopdllcpeaflaaa
