/- The order of cells: both, and that it is a weak order. -/
import Derived.Test.YtlchjjchgebfiaaGreatDoorPkX
import Derived.Test.YtlchjjchgebfiaaGreatDoorDp36
import Derived.Test.YtlchjjchgebfiaaGreatDoorPkU

namespace Go.Proofs.YtlchjjchgebfiaaGreatDoor
open Go.RowKit Go.Dl
attribute [local irreducible] Tri SCall TSem ECall Drawn DFun QSem PSem PCall GCall MCall Round Weak dloadE OW DWl Tells IntKind.wrap Retold ESem
def ltB (a b : ByteArray) : Bool := Op.bytesLess a.toList b.toList
def lessB (a b : ByteArray) : Bool := bif bif numOk a then numOk b else false then decide ((numD a).1 < (numD b).1) else bif bif numOk a then true else numOk b then numOk a else ltB a b
theorem less_1 {a b : ByteArray} (h : (bif numOk a then numOk b else false) = true) : decide ((numD a).1 < (numD b).1) = lessB a b := by rw [lessB, h]; rfl
theorem less_2 {a b : ByteArray} (h : (bif numOk a then numOk b else false) = false) (h1 : (bif numOk a then true else numOk b) = true) : numOk a = lessB a b := by rw [lessB, h, h1]; rfl
theorem less_3 {a b : ByteArray} (h : (bif numOk a then numOk b else false) = false) (h1 : (bif numOk a then true else numOk b) = false) : ltB a b = lessB a b := by rw [lessB, h, h1]; rfl
attribute [local irreducible] numOk numD
theorem less24_D (a b : ByteArray) (ha : a.size ≤ 1024) (hb : b.size ≤ 1024) : DPure Tryz.prog 24 [strV a, strV b] (bl (lessB a b)) := by
  have h1 := number25_E a ha
  have h2 := number25_E b hb
  refine DFun.body Tryz.func24 rfl (by kernel_rfl) ?_
  repeat' (first | with_reducible rfl | ((conv => whnf); first | refine And.intro ?_ ?_ | (intro h; first | with_reducible exact tf_no h | with_reducible exact ft_no h | exact Bool.noConfusion h | with_reducible exact h | (have ht : true = true := h; clear ht h) | skip) | ((with_reducible refine SCall.mark ?_); first | refine SCall.data (h1) rfl rfl ?_ | refine SCall.scal (h1) rfl rfl ?_ | refine SCall.data (h2) rfl rfl ?_ | refine SCall.scal (h2) rfl rfl ?_) | ((with_reducible refine PCall.mark ?_); first | refine PCall.mk (h1) rfl rfl ?_ | refine PCall.mk (h2) rfl rfl ?_) | ((with_reducible refine GCall.mark ?_); first | refine GCall.data (fun _ => h1) rfl rfl ?_ | refine GCall.scal (fun _ => h1) rfl rfl ?_ | refine GCall.data (fun _ => h2) rfl rfl ?_ | refine GCall.scal (fun _ => h2) rfl rfl ?_) | ((with_reducible refine MCall.mark ?_); first | refine MCall.data (fun _ => h1) rfl rfl ?_ | refine MCall.plain (PCall.mk (h1) rfl rfl ?_) | refine MCall.data (fun _ => h2) rfl rfl ?_ | refine MCall.plain (PCall.mk (h2) rfl rfl ?_)) | ((with_reducible refine ECall.mark ?_); first | refine ECall.only ?_ (fun h => nomatch h) | refine ECall.only ?_ ?_) | ((with_reducible refine Drawn.mark ?_); first | refine Drawn.quiet (by kernel_rfl) ?_) | refine dcell_ok rfl ?_ | refine AppC.new ?_))
  all_goals first | (with_reducible refine enters_mark ?_; kernel_rfl) | (with_reducible refine boolT_mark ?_; kernel_rfl) | rfl | trivial | assumption | exact Nat.le_of_ble_eq_true rfl | (show entersB _ _ = true; kernel_rfl) | exact DW.same _ rfl | exact DW.ref _ _ _ rfl | exact DW.arr _ _ _ rfl | refine DW.int ?_ | refine dvb ?_ | refine dvi ?_ | exact OW.cells rfl rfl (DWl.same rfl) | skip
  all_goals repeat' (first | exact OW.cells rfl rfl (DWl.same rfl) | refine OW.cells rfl rfl ?_ | exact DW.nilArr _ rfl | refine DW.clol ?_ ?_ | refine DWl.cons ?_ ?_ | exact DWl.nil | exact DW.same _ rfl | exact DW.ref _ _ _ rfl | exact DW.arr _ _ _ rfl | refine DW.int ?_)
  all_goals try (simp_all; done)
  all_goals try (simp at *; omega)
  · exact less_1 h
  · rename_i h3
    exact less_2 h3 h
  · rename_i h3
    exact less_3 h3 h
theorem bytesLess_is : ∀ (x y : List UInt8), Op.bytesLess x y = decide (x < y)
  | [], [] => by simp [Op.bytesLess]
  | _ :: _, [] => by simp [Op.bytesLess]
  | [], _ :: _ => by simp [Op.bytesLess]
  | a :: x, b :: y => by
    rw [Op.bytesLess, bytesLess_is x y]
    simp only [List.cons_lt_cons_iff]
    by_cases h1 : a < b <;> by_cases h2 : a = b <;> by_cases h3 : x < y <;> simp [h1, h2, h3]
theorem ltB_irr (a : ByteArray) : ltB a a = false := by
  rw [ltB, bytesLess_is]; simp [List.lt_irrefl]
theorem ltB_asym {a b : ByteArray} (h : ltB a b = true) : ltB b a = false := by
  rw [ltB, bytesLess_is] at h ⊢
  simp only [decide_eq_true_eq, decide_eq_false_iff_not] at *
  exact fun k => List.lt_irrefl _ (List.lt_trans h k)
theorem ltB_neg {a b c : ByteArray} (h : ltB a b = false) (k : ltB b c = false) : ltB a c = false := by
  rw [ltB, bytesLess_is] at *
  simp only [decide_eq_false_iff_not, List.not_lt] at *
  exact List.le_trans k h
theorem cmp_less (a b : ByteArray) : decide (cmpT a b < 0) = lessB a b := by
  unfold cmpT lessB
  cases ha : numOk a with
  | true =>
    cases hb : numOk b with
    | true =>
      have h1 := num_to (s := a) (by rw [num_ok]; exact ha)
      have h2 := num_to (s := b) (by rw [num_ok]; exact hb)
      show decide (cmpI (numN a) (numN b) < 0) = decide ((numD a).1 < (numD b).1)
      rw [h1.2, h2.2, cmpI]
      by_cases h : (numD a).1 < (numD b).1
      · rw [if_pos h, decide_eq_true h]; rfl
      · rw [if_neg h, decide_eq_false h]
        split <;> rfl
    | false => rfl
  | false =>
    cases hb : numOk b with
    | true => rfl
    | false =>
      show decide (cmpS a b < 0) = ltB a b
      unfold cmpS
      rw [show Op.bytesLess a.toList b.toList = ltB a b from rfl]
      cases h : ltB a b with
      | true => rfl
      | false => rw [if_neg (by decide)]; split <;> rfl
theorem cmp_zero {a b : ByteArray} : cmpT a b = 0 ↔ lessB a b = false ∧ lessB b a = false := by
  unfold cmpT lessB
  cases ha : numOk a with
  | true =>
    cases hb : numOk b with
    | true =>
      have h1 := num_to (s := a) (by rw [num_ok]; exact ha)
      have h2 := num_to (s := b) (by rw [num_ok]; exact hb)
      show cmpI (numN a) (numN b) = 0 ↔ decide ((numD a).1 < (numD b).1) = false ∧ decide ((numD b).1 < (numD a).1) = false
      rw [h1.2, h2.2, cmpI, decide_eq_false_iff_not, decide_eq_false_iff_not]
      constructor
      · intro h
        split at h
        · cases h
        split at h
        · cases h
        · exact ⟨by assumption, by assumption⟩
      · intro ⟨h, k⟩
        rw [if_neg h, if_neg k]
    | false => exact ⟨fun h => (by cases h), fun h => (by cases h.1)⟩
  | false =>
    cases hb : numOk b with
    | true => exact ⟨fun h => (by cases h), fun h => (by cases h.2)⟩
    | false =>
      show cmpS a b = 0 ↔ ltB a b = false ∧ ltB b a = false
      unfold cmpS
      rw [show Op.bytesLess a.toList b.toList = ltB a b from rfl]
      cases h : ltB a b with
      | true => rw [if_pos rfl]; exact ⟨fun h => (by cases h), fun h => (by cases h.1)⟩
      | false =>
        rw [if_neg (by decide)]
        cases e : a == b with
        | true =>
          rw [ba_eq.1 e, ltB_irr]; exact ⟨fun _ => ⟨rfl, rfl⟩, fun _ => rfl⟩
        | false =>
          refine ⟨fun h => (by cases h), fun h2 => ?_⟩
          exfalso
          have h2 := h2.2
          rw [ltB, bytesLess_is] at h h2
          simp only [decide_eq_false_iff_not, List.not_lt] at h h2
          have : a.toList = b.toList := List.le_antisymm h2 h
          have : a = b := ByteArray.ext (by
            have h3 : a.data.toList = b.data.toList := by simpa [ByteArray.toList_eq] using this
            exact Array.toList_inj.1 h3)
          rw [this] at e
          rw [ba_eq.2 rfl] at e; cases e
theorem less_asym {a b : ByteArray} (h : lessB a b = true) : lessB b a = false := by
  unfold lessB at h ⊢
  cases ha : numOk a with
  | true =>
    cases hb : numOk b with
    | true =>
      rw [ha, hb] at h
      have h : decide ((numD a).1 < (numD b).1) = true := h
      show decide ((numD b).1 < (numD a).1) = false
      have := of_decide_eq_true h
      exact decide_eq_false (by omega)
    | false => rfl
  | false =>
    cases hb : numOk b with
    | true => rw [ha, hb] at h; cases h
    | false => rw [ha, hb] at h; exact ltB_asym h
theorem less_neg {a b c : ByteArray} (h : lessB a b = false) (k : lessB b c = false) : lessB a c = false := by
  unfold lessB at *
  cases ha : numOk a <;> cases hb : numOk b <;> cases hc : numOk c <;> rw [ha, hb] at h <;> rw [hb, hc] at k
  · exact ltB_neg h k
  · rfl
  · cases k
  · rfl
  · cases h
  · cases h
  · cases k
  · have h : decide ((numD a).1 < (numD b).1) = false := h
    have k : decide ((numD b).1 < (numD c).1) = false := k
    have := of_decide_eq_false h
    have := of_decide_eq_false k
    exact decide_eq_false (by omega)
end Go.Proofs.YtlchjjchgebfiaaGreatDoor

namespace Go.Proofs.YtlchjjchgebfiaaGreatDoor
open Go.RowKit Go.Dl
attribute [local irreducible] Tri SCall TSem ECall Drawn DFun QSem PSem PCall GCall MCall Round Weak dloadE OW DWl Tells IntKind.wrap Retold ESem
def sgnK (k : Int) : Int := if k < 0 then -1 else 1
def atK (k : Int) : Int := if k < 0 then -(k + 1) else k - 1
def KeyOk (n : Nat) (k : Int) : Prop := k ≠ 0 ∧ -(n : Int) ≤ k ∧ k ≤ n
theorem atK_in {n : Nat} {k : Int} (h : KeyOk n k) : 0 ≤ atK k ∧ atK k < n := by
  unfold atK; have h1 := h.1; have h2 := h.2; split <;> omega
def oneK (k : Int) (a b : List ByteArray) : Int := sgnK k * cmpT (a.getD (atK k).toNat emB) (b.getD (atK k).toNat emB)
def cmpK : List Int → List ByteArray → List ByteArray → Int
  | [], _, _ => 0
  | k :: ks, a, b => bif oneK k a b != 0 then oneK k a b else cmpK ks a b
theorem cmpT_in (a b : ByteArray) : -1 ≤ cmpT a b ∧ cmpT a b ≤ 1 := by
  have h1 : ∀ x y : Int, -1 ≤ cmpI x y ∧ cmpI x y ≤ 1 := fun x y => by unfold cmpI; split; decide; split <;> decide
  have h2 : -1 ≤ cmpS a b ∧ cmpS a b ≤ 1 := by unfold cmpS; split; decide; split <;> decide
  unfold cmpT
  cases bif numOk a then numOk b else false with
  | true => exact h1 _ _
  | false =>
    cases numOk a with
    | true => exact (show (-1 : Int) ≤ -1 ∧ (-1 : Int) ≤ 1 by decide)
    | false =>
      cases numOk b with
      | true => exact (show (-1 : Int) ≤ 1 ∧ (1 : Int) ≤ 1 by decide)
      | false => exact h2
theorem one_wrap (k : Int) (x y : ByteArray) : IntKind.i64.wrap (sgnK k * cmpT x y) = sgnK k * cmpT x y := by
  have h := cmpT_in x y
  have h2 : -1 ≤ sgnK k * cmpT x y ∧ sgnK k * cmpT x y ≤ 1 := by
    unfold sgnK
    split <;> omega
  exact wrapI (by omega) (by omega)
def oneD (k : Int) : DV := .clo (.func 61) [] [.lref 1 [[int1 (sgnK k)]] 0 0, .lref 1 [[int1 (atK k)]] 0 0]
structure RowOk (n : Nat) (a : List ByteArray) : Prop where
  len : a.length = n
  n : n ≤ 64
  small : ∀ s ∈ a, s.size ≤ 1024
theorem ro_cell {n : Nat} {a : List ByteArray} (h : RowOk n a) {k : Int} (hk : KeyOk n k) : (a.getD (atK k).toNat emB).size ≤ 1024 := by
  have h1 := atK_in hk
  have h2 : (atK k).toNat < a.length := by rw [h.len]; omega
  rw [List.getD_eq_getElem?_getD, List.getElem?_eq_getElem h2]
  exact h.small _ (List.getElem_mem h2)
theorem ro_int {n : Nat} {a : List ByteArray} (h : RowOk n a) {k : Int} (hk : KeyOk n k) : atK k < ((a.map strD).length : Nat) := by
  rw [List.length_map, h.len]; exact (atK_in hk).2
theorem ro_nat {n : Nat} {a : List ByteArray} (h : RowOk n a) {k : Int} (hk : KeyOk n k) : (atK k).toNat < a.length := by
  rw [h.len]; have := atK_in hk; omega
attribute [local irreducible] cmpT sgnK atK
set_option maxRecDepth 20000 in
theorem one61_D {n : Nat} {k : Int} (hk : KeyOk n k) {a b : List ByteArray} (ha : RowOk n a) (hb : RowOk n b) : DPure Tryz.prog 61 [strs a, strs b, .lref 1 [[int1 (sgnK k)]] 0 0, .lref 1 [[int1 (atK k)]] 0 0] (int1 (oneK k a b)) := by
  have hc := cmp59_D (a.getD (atK k).toNat emB) (b.getD (atK k).toNat emB) (by have := ro_cell ha hk; omega) (by have := ro_cell hb hk; omega)
  refine DFun.body Tryz.func61 rfl (by kernel_rfl) ?_
  repeat' (first | with_reducible rfl | ((conv => whnf); first | refine And.intro ?_ ?_ | (intro h; first | with_reducible exact tf_no h | with_reducible exact ft_no h | exact Bool.noConfusion h | with_reducible exact h | (have ht : true = true := h; clear ht h) | skip) | ((with_reducible refine SCall.mark ?_); first | refine SCall.data (hc) rfl rfl ?_ | refine SCall.scal (hc) rfl rfl ?_) | ((with_reducible refine PCall.mark ?_); first | refine PCall.mk (hc) rfl rfl ?_) | ((with_reducible refine GCall.mark ?_); first | refine GCall.data (fun _ => hc) rfl rfl ?_ | refine GCall.scal (fun _ => hc) rfl rfl ?_) | ((with_reducible refine MCall.mark ?_); first | refine MCall.data (fun _ => hc) rfl rfl ?_ | refine MCall.plain (PCall.mk (hc) rfl rfl ?_)) | ((with_reducible refine ECall.mark ?_); first | refine ECall.only ?_ (fun h => nomatch h) | refine ECall.only ?_ ?_) | ((with_reducible refine Drawn.mark ?_); first | refine Drawn.quiet (by kernel_rfl) ?_) | refine dloadE_map (emB) ?_ ?_ | refine dloadE_go ?_ | refine dcell_ok rfl ?_ | refine AppC.new ?_))
  all_goals first | (with_reducible refine enters_mark ?_; kernel_rfl) | (with_reducible refine boolT_mark ?_; kernel_rfl) | rfl | trivial | assumption | exact Nat.le_of_ble_eq_true rfl | (show entersB _ _ = true; kernel_rfl) | exact DW.same _ rfl | exact DW.ref _ _ _ rfl | exact DW.arr _ _ _ rfl | refine DW.int ?_ | refine dvb ?_ | refine dvi ?_ | exact OW.cells rfl rfl (DWl.same rfl) | exact Nat.zero_le _ | omega | skip
  all_goals repeat' (first | refine OW.cells rfl rfl ?_ | exact DW.nilArr _ rfl | refine DWl.cons ?_ ?_ | exact DWl.nil | exact DW.same _ rfl | exact DW.ref _ _ _ rfl | exact DW.arr _ _ _ rfl | exact DW.sub _ _ _ _ rfl | exact DW.mo _ _ rfl | exact DW.nilLst _ | refine DW.aggl ?_ | refine DW.tupl ?_ | refine DW.clol ?_ ?_)
  all_goals try ((conv => whnf); with_reducible first | refine Round.mark ?_ | refine Tells.mark ?_ | refine Retold.mark ?_)
  all_goals try first | (show (_ : Bool) = _; simp_all; done) | (show (_ : Int) < _; simp at *; omega) | (show (_ : Int) ≤ _; simp at *; omega) | (show (_ : Nat) < _; simp at *; omega) | (show (_ : Nat) ≤ _; simp at *; omega)
  all_goals first | exact (atK_in hk).1 | exact ro_int ha hk | exact ro_nat ha hk | exact ro_int hb hk | exact ro_nat hb hk | exact one_wrap k _ _ | skip
def chC (ks : List Int) : List DV := ks.map oneD
theorem chC_len (ks : List Int) : (chC ks).length = ks.length := List.length_map _
theorem chC_at {ks : List Int} {i : Nat} (h : i < ks.length) : (chC ks)[i]? = some (oneD (ks.getD i 0)) := by
  rw [chC, List.getElem?_map, List.getElem?_eq_getElem h, List.getD_eq_getElem?_getD, List.getElem?_eq_getElem h]; rfl
theorem chC_all (ks : List Int) : (chC ks).all noId1 = true := by
  rw [chC, List.all_map, List.all_eq_true]
  exact fun k _ => rfl
def chO3 (ks : List Int) : List (Nat × DObj) := [(0, ⟨104, 1, [.arr 1 ks.length]⟩), (1, ⟨105, 1, chC ks⟩)]
def cmSt (ks : List Int) (a b : List ByteArray) (i : Nat) : St := ⟨⟨2, []⟩, tmOf [(0, strs a), (1, strs b), (2, .ref 0 0), (5, int1 0), (9, .arr 1 ks.length), (10, int1 ks.length), (11, int1 i)], .of (chO3 ks) 2⟩
theorem key_at {n : Nat} {ks : List Int} (h : ∀ k ∈ ks, KeyOk n k) {i : Nat} (hi : i < ks.length) : KeyOk n (ks.getD i 0) := by
  rw [List.getD_eq_getElem?_getD, List.getElem?_eq_getElem hi]; exact h _ (List.getElem_mem hi)
theorem cmpK_at {ks : List Int} {a b : List ByteArray} {i : Nat} (hi : i < ks.length) : cmpK (ks.drop i) a b = bif oneK (ks.getD i 0) a b != 0 then oneK (ks.getD i 0) a b else cmpK (ks.drop (i + 1)) a b := by
  rw [List.drop_eq_getElem_cons hi, cmpK, List.getD_eq_getElem?_getD, List.getElem?_eq_getElem hi]; rfl
theorem cmpK_end {ks : List Int} {a b : List ByteArray} {i : Nat} (hi : ks.length ≤ i) : cmpK (ks.drop i) a b = 0 := by
  rw [List.drop_eq_nil_of_le hi]; rfl
theorem ix_t (i : Nat) : (i : Int).toNat * 1 = i := by omega
attribute [local irreducible] chC oneK cmpK
set_option maxRecDepth 20000 in
theorem cmp63_G {n : Nat} {ks : List Int} (hk : ∀ k ∈ ks, KeyOk n k) (hl : ks.length ≤ 140737488355328) {a b : List ByteArray} (ha : RowOk n a) (hb : RowOk n b) : SCall Tryz.prog 63 [strs a, strs b, .ref 0 0] (.of (chO3 ks) 2) fun r' s' => r' = int1 (cmpK ks a b) ∧ s' = .of (chO3 ks) 2 := by
  refine SCall.retell (SCall.run Tryz.func63 rfl (Nat.le_of_ble_eq_true rfl) (by kernel_rfl) ?_)
  repeat' (first | with_reducible rfl | ((conv => whnf); first | refine And.intro ?_ ?_ | (intro h; first | with_reducible exact tf_no h | with_reducible exact ft_no h | exact Bool.noConfusion h | with_reducible exact h | (have ht : true = true := h; clear ht h) | skip) | ((with_reducible refine ECall.mark ?_); first | refine ECall.only ?_ (fun h => nomatch h) | refine ECall.only ?_ ?_) | ((with_reducible refine Drawn.mark ?_); first | refine Drawn.quiet (by kernel_rfl) ?_) | refine dcell_ok rfl ?_ | refine AppC.new ?_))
  all_goals first | (with_reducible refine enters_mark ?_; kernel_rfl) | (with_reducible refine boolT_mark ?_; kernel_rfl) | rfl | trivial | assumption | exact Nat.le_of_ble_eq_true rfl | (show entersB _ _ = true; kernel_rfl) | exact DW.same _ rfl | exact DW.ref _ _ _ rfl | exact DW.arr _ _ _ rfl | refine DW.int ?_ | refine dvb ?_ | refine dvi ?_ | exact OW.cells rfl rfl (DWl.same rfl) | exact Nat.zero_le _ | omega | skip
  all_goals repeat' (first | refine OW.cells rfl rfl ?_ | exact DW.nilArr _ rfl | refine DWl.cons ?_ ?_ | exact DWl.nil | exact DW.same _ rfl | exact DW.ref _ _ _ rfl | exact DW.arr _ _ _ rfl | exact DW.sub _ _ _ _ rfl | exact DW.mo _ _ rfl | exact DW.nilLst _ | refine DW.aggl ?_ | refine DW.tupl ?_ | refine DW.clol ?_ ?_)
  all_goals try ((conv => whnf); with_reducible first | refine Round.mark ?_ | refine Tells.mark ?_ | refine Retold.mark ?_)
  all_goals try first | (show (_ : Bool) = _; simp_all; done) | (show (_ : Int) < _; simp at *; omega) | (show (_ : Int) ≤ _; simp at *; omega) | (show (_ : Nat) < _; simp at *; omega) | (show (_ : Nat) ≤ _; simp at *; omega)
  conv => whnf
  refine Tri.loop (cmSt ks a b) (fun i => i ≤ ks.length ∧ cmpK (ks.drop i) a b = cmpK ks a b) (fun i => ks.length - i) 0 (by kernel_rfl) (Weak.list [] [] (by kernel_rfl) ?_ ?_) ⟨Nat.zero_le _, rfl⟩ ?_
  iterate 2 · repeat' (first | exact DWl.eq rfl (chC_all _) | exact DW.same _ rfl | exact DW.ref _ _ _ rfl | exact DW.arr _ _ _ rfl | exact OW.cells rfl rfl (DWl.same rfl) | refine OW.cells rfl rfl ?_ | refine DWl.cons ?_ ?_ | exact DWl.nil | exact DW.nilArr _ rfl | exact DW.nilLst _ | refine DW.clol ?_ ?_ | refine DW.aggl ?_ | refine DW.tupl ?_ | refine DW.int ?_ | refine DW.bool ?_ | refine DW.str ?_ | refine DW.arrE rfl ?_ | ((conv => whnf); first | refine And.intro ?_ ?_ | trivial))
  intro i hi
  obtain ⟨hi, hg⟩ := hi
  show dcode _ _ _ _ (cmSt ks a b i) _
  repeat' (first | with_reducible rfl | ((conv => whnf); first | refine And.intro ?_ ?_ | (intro h; first | with_reducible exact tf_no h | with_reducible exact ft_no h | exact Bool.noConfusion h | with_reducible exact h | (have ht : true = true := h; clear ht h) | skip) | ((with_reducible refine SCall.mark ?_); first | refine SCall.data (one61_D (k := ks.getD ((i : Int).toNat * 1) 0) (key_at hk ?_) ha hb) rfl rfl ?_ | refine SCall.scal (one61_D (k := ks.getD ((i : Int).toNat * 1) 0) (key_at hk ?_) ha hb) rfl rfl ?_) | ((with_reducible refine PCall.mark ?_); first | refine PCall.mk (one61_D (k := ks.getD ((i : Int).toNat * 1) 0) (key_at hk ?_) ha hb) rfl rfl ?_) | ((with_reducible refine GCall.mark ?_); first | refine GCall.data (fun _ => one61_D (k := ks.getD ((i : Int).toNat * 1) 0) (key_at hk ?_) ha hb) rfl rfl ?_ | refine GCall.scal (fun _ => one61_D (k := ks.getD ((i : Int).toNat * 1) 0) (key_at hk ?_) ha hb) rfl rfl ?_) | ((with_reducible refine MCall.mark ?_); first | refine MCall.data (fun _ => one61_D (k := ks.getD ((i : Int).toNat * 1) 0) (key_at hk ?_) ha hb) rfl rfl ?_ | refine MCall.plain (PCall.mk (one61_D (k := ks.getD ((i : Int).toNat * 1) 0) (key_at hk ?_) ha hb) rfl rfl ?_)) | ((with_reducible refine ECall.mark ?_); first | refine ECall.only ?_ (fun h => nomatch h) | refine ECall.only ?_ ?_) | ((with_reducible refine Drawn.mark ?_); first | refine Drawn.quiet (by kernel_rfl) ?_) | refine dcell_at _ (fun _ => chC_at ?_) ?_ | refine dcell_ok rfl ?_ | refine AppC.new ?_))
  all_goals try ((conv => whnf); with_reducible refine Round.mark ?_)
  all_goals try first | ((with_reducible show Option.isSome (slElem _ _) = true); kernel_rfl) | ((with_reducible show slElem _ _ = some _); kernel_rfl) | ((with_reducible refine enters_mark ?_); kernel_rfl) | (with_reducible assumption) | ((with_reducible show List.all _ DV.one = true); rfl) | ((with_reducible show (_ : Nat) = _); rfl) | ((with_reducible show (_ == true) = true); simpa using h) | ((with_reducible show (_ : Nat) ≤ _); exact Nat.le_of_ble_eq_true rfl) | ((with_reducible show (_ : Int) ≤ _); first | omega | decide) | ((with_reducible show (_ : Int) < _); first | omega | decide) | ((with_reducible show (_ : Nat) < _); omega) | ((with_reducible show (_ : Nat) ≤ _); omega)
  · exact of_decide_eq_true h
  · have := lt_int h; omega
  · have := lt_int h; omega
  · rename_i h1
    have hlt := lt_int h1
    rw [ix_t] at h
    have e : cmpK ks a b = oneK (ks.getD i 0) a b := by rw [← hg, cmpK_at hlt, h]; rfl
    repeat' (first | with_reducible rfl | ((conv => whnf); first | refine And.intro ?_ ?_ | (intro h; first | with_reducible exact tf_no h | with_reducible exact ft_no h | exact Bool.noConfusion h | with_reducible exact h | (have ht : true = true := h; clear ht h) | skip) | ((with_reducible refine ECall.mark ?_); first | refine ECall.only ?_ (fun h => nomatch h) | refine ECall.only ?_ ?_) | ((with_reducible refine Drawn.mark ?_); first | refine Drawn.quiet (by kernel_rfl) ?_) | refine dcell_ok rfl ?_ | refine AppC.new ?_))
    conv => whnf
    refine Retold.list [] [] (int1 (cmpK ks a b)) (chO3 ks) 2 (by kernel_rfl) ?_ ?_ ⟨rfl, rfl⟩
    iterate 2 · repeat' (first | exact (by rw [ix_t]; exact e.symm) | exact DWl.eq rfl (chC_all _) | exact DW.same _ rfl | exact DW.ref _ _ _ rfl | exact DW.arr _ _ _ rfl | exact OW.cells rfl rfl (DWl.same rfl) | refine OW.cells rfl rfl ?_ | refine DWl.cons ?_ ?_ | exact DWl.nil | exact DW.nilArr _ rfl | exact DW.nilLst _ | refine DW.clol ?_ ?_ | refine DW.aggl ?_ | refine DW.tupl ?_ | refine DW.int ?_ | refine DW.bool ?_ | refine DW.str ?_ | refine DW.arrE rfl ?_ | ((conv => whnf); first | refine And.intro ?_ ?_ | trivial))
  · rename_i h1
    have hlt := lt_int h1
    rw [ix_t] at h
    refine Round.go (fun _ => i + 1) ⟨hlt, by rw [← hg, cmpK_at hlt, h]; rfl⟩ (by show ks.length - (i + 1) < ks.length - i; omega) (Weak.list [] [] (by kernel_rfl) ?_ ?_)
    iterate 2 · repeat' (first | exact wsucc hlt (by omega) | exact DWl.eq rfl (chC_all _) | exact DW.same _ rfl | exact DW.ref _ _ _ rfl | exact DW.arr _ _ _ rfl | exact OW.cells rfl rfl (DWl.same rfl) | refine OW.cells rfl rfl ?_ | refine DWl.cons ?_ ?_ | exact DWl.nil | exact DW.nilArr _ rfl | exact DW.nilLst _ | refine DW.clol ?_ ?_ | refine DW.aggl ?_ | refine DW.tupl ?_ | refine DW.int ?_ | refine DW.bool ?_ | refine DW.str ?_ | refine DW.arrE rfl ?_ | ((conv => whnf); first | refine And.intro ?_ ?_ | trivial))
  · have hge := ge_int h
    have e : cmpK ks a b = 0 := by rw [← hg, cmpK_end hge]
    repeat' (first | with_reducible rfl | ((conv => whnf); first | refine And.intro ?_ ?_ | (intro h; first | with_reducible exact tf_no h | with_reducible exact ft_no h | exact Bool.noConfusion h | with_reducible exact h | (have ht : true = true := h; clear ht h) | skip) | ((with_reducible refine ECall.mark ?_); first | refine ECall.only ?_ (fun h => nomatch h) | refine ECall.only ?_ ?_) | ((with_reducible refine Drawn.mark ?_); first | refine Drawn.quiet (by kernel_rfl) ?_) | refine dcell_ok rfl ?_ | refine AppC.new ?_))
    conv => whnf
    refine Retold.list [] [] (int1 (cmpK ks a b)) (chO3 ks) 2 (by kernel_rfl) ?_ ?_ ⟨rfl, rfl⟩
    iterate 2 · repeat' (first | exact e.symm | exact DWl.eq rfl (chC_all _) | exact DW.same _ rfl | exact DW.ref _ _ _ rfl | exact DW.arr _ _ _ rfl | exact OW.cells rfl rfl (DWl.same rfl) | refine OW.cells rfl rfl ?_ | refine DWl.cons ?_ ?_ | exact DWl.nil | exact DW.nilArr _ rfl | exact DW.nilLst _ | refine DW.clol ?_ ?_ | refine DW.aggl ?_ | refine DW.tupl ?_ | refine DW.int ?_ | refine DW.bool ?_ | refine DW.str ?_ | refine DW.arrE rfl ?_ | ((conv => whnf); first | refine And.intro ?_ ?_ | trivial))
end Go.Proofs.YtlchjjchgebfiaaGreatDoor
namespace Go.Proofs.YtlchjjchgebfiaaGreatDoor
open Go.RowKit Go.Dl Go.Dl.Stb
attribute [local irreducible] Tri SCall TSem ECall Drawn DFun QSem PSem PCall GCall MCall Round Go.Dl.Weak dloadE OW DWl Tells IntKind.wrap Retold ESem
def rwF (rows : List (List ByteArray)) (n : Nat) (f : Nat → Nat) : List DV := (List.range n).map fun i => strs (rows.getD (f i) [])
def ltK (ks : List Int) (rows : List (List ByteArray)) (p q : Nat) : Bool := decide (cmpK ks (rows.getD p []) (rows.getD q []) < 0)
theorem rwF_len (rows : List (List ByteArray)) (n : Nat) (f : Nat → Nat) : (rwF rows n f).length = n := by rw [rwF, List.length_map, List.length_range]
theorem rwF_at {rows : List (List ByteArray)} {n : Nat} {f : Nat → Nat} {i : Nat} (h : i < n) : (rwF rows n f)[i]? = some (strs (rows.getD (f i) [])) := by
  rw [rwF, List.getElem?_map, List.getElem?_eq_getElem (by rw [List.length_range]; exact h), List.getElem_range]; rfl
theorem rwF_all (rows : List (List ByteArray)) (n : Nat) (f : Nat → Nat) : (rwF rows n f).all noId1 = true := by
  rw [rwF, List.all_map, List.all_eq_true]
  exact fun k _ => rfl
theorem rwF_set {rows : List (List ByteArray)} {n : Nat} {f : Nat → Nat} (i p : Nat) : (rwF rows n f).set i (strs (rows.getD p [])) = rwF rows n (upf f i p) := by
  refine List.ext_getElem? fun k => ?_
  by_cases e : i = k
  · subst e
    rcases Nat.lt_or_ge i n with h | h
    · rw [List.getElem?_set_self (by rw [rwF_len]; exact h), rwF_at h, upf_eq]
    · rw [List.getElem?_eq_none (by rw [List.length_set, rwF_len]; exact h), List.getElem?_eq_none (by rw [rwF_len]; exact h)]
  · rw [List.getElem?_set_ne e]
    rcases Nat.lt_or_ge k n with h | h
    · rw [rwF_at h, rwF_at h, upf_ne _ _ (Ne.symm e)]
    · rw [List.getElem?_eq_none (by rw [rwF_len]; exact h), List.getElem?_eq_none (by rw [rwF_len]; exact h)]
theorem rwF_swap {rows : List (List ByteArray)} {n : Nat} {f : Nat → Nat} (i j : Nat) : ((rwF rows n f).set i (strs (rows.getD (f j) []))).set j (strs (rows.getD (f i) [])) = rwF rows n (swf f i j) := by
  rw [rwF_set, rwF_set]; rfl
structure SrtOk (ks : List Int) (rows : List (List ByteArray)) (n : Nat) : Prop where
  keys : ∃ m, (∀ k ∈ ks, KeyOk m k) ∧ ∀ r ∈ rows, RowOk m r
  len : rows.length = n
  n : n ≤ 4096
  ks : ks.length ≤ 140737488355328
def Cl (n : Nat) (f : Nat → Nat) : Prop := ∀ i, i < n → f i < n
theorem Cl.swf {n : Nat} {f : Nat → Nat} (h : Cl n f) {i j : Nat} (hi : i < n) (hj : j < n) : Cl n (swf f i j) := fun k hk => by
  by_cases e1 : k = j
  · rw [e1, swf_j]; exact h i hi
  by_cases e2 : k = i
  · rw [e2, swf_i]; exact h j hj
  · rw [swf_ne f e2 e1]; exact h k hk
def stO (ks : List Int) (rows : List (List ByteArray)) (n : Nat) (f : Nat → Nat) : List (Nat × DObj) := [(0, ⟨22, 1, rwF rows n f⟩), (1, ⟨104, 1, [.arr 2 ks.length]⟩), (2, ⟨105, 1, chC ks⟩)]
theorem cmp_rows {ks : List Int} {rows : List (List ByteArray)} {n : Nat} (h : SrtOk ks rows n) {p q : Nat} (hp : p < n) (hq : q < n) :
    SCall Tryz.prog 63 [strs (rows.getD p []), strs (rows.getD q []), .ref 0 0] (.of (chO3 ks) 2) fun r' s' => r' = int1 (cmpK ks (rows.getD p []) (rows.getD q [])) ∧ s' = .of (chO3 ks) 2 := by
  obtain ⟨m, h1, h2⟩ := h.keys
  have hm : ∀ p, p < n → RowOk m (rows.getD p []) := fun p hp => by
    have hp2 : p < rows.length := by rw [h.len]; exact hp
    rw [List.getD_eq_getElem?_getD, List.getElem?_eq_getElem hp2]
    exact h2 _ (List.getElem_mem hp2)
  exact cmp63_G h1 h.ks (hm p hp) (hm q hq)
def atO (ks : List Int) : List (Nat × DObj) := [(1, ⟨104, 1, [.arr 2 ks.length]⟩), (2, ⟨105, 1, chC ks⟩)]
theorem rwF_get {rows : List (List ByteArray)} {n : Nat} {f : Nat → Nat} {k : Nat} (h : k < n) : (rwF rows n f)[k]? = some (strs (rows.getD (f k) [])) := rwF_at h
theorem ix_1 (j : Nat) : ((j + 1 : Nat) : Int).toNat * 1 = j + 1 := by omega
theorem ix_0 {j : Nat} (h : j ≤ 4096) : (IntKind.i64.wrap (((j + 1 : Nat) : Int) - 1)).toNat * 1 = j := by
  rw [IntKind.wrap_i64]; omega
theorem ix_w {j : Nat} (h : j ≤ 4096) : IntKind.i64.wrap (((j + 1 : Nat) : Int) - 1) = (j : Nat) := by
  rw [IntKind.wrap_i64]; omega
def inO (ks : List Int) (rows : List (List ByteArray)) (n a b : Nat) (p : Nat × (Nat → Nat)) : St := ⟨⟨3, []⟩, tmOf [(0, .arr 0 n), (1, int1 a), (2, int1 b), (3, .clo (.func 63) [] [.ref 1 0]), (8, int1 p.1)], .of (stO ks rows n p.2) 3⟩
def inI (ks : List Int) (rows : List (List ByteArray)) (n a b i : Nat) (p : Nat × (Nat → Nat)) : St := ⟨⟨3, []⟩, tmOf [(0, .arr 0 n), (1, int1 a), (2, int1 b), (3, .clo (.func 63) [] [.ref 1 0]), (8, int1 i), (9, int1 p.1)], .of (stO ks rows n p.2) 3⟩
theorem no_gt (a : Nat) : ¬ ((decide ((a : Int) < ((0 : Nat) : Int)) == true) = true) := by simp
theorem insOut_0 (lt : Nat → Nat → Bool) (a i : Nat) (f : Nat → Nat) : insOut lt a 0 i f = f := rfl
theorem ix_a {j n : Nat} (h : j + 1 < n) (hn : n ≤ 4096) : 0 ≤ IntKind.i64.wrap (((j + 1 : Nat) : Int) - 1) := by rw [ix_w (by omega)]; omega
theorem ix_b {j n : Nat} (h : j + 1 < n) (hn : n ≤ 4096) : IntKind.i64.wrap (((j + 1 : Nat) : Int) - 1) < (n : Int) := by rw [ix_w (by omega)]; omega
theorem ix_c {j n : Nat} (h : j + 1 < n) (hn : n ≤ 4096) : (IntKind.i64.wrap (((j + 1 : Nat) : Int) - 1)).toNat * 1 < n := by rw [ix_0 (by omega)]; omega
theorem ix_d {j n : Nat} (rows : List (List ByteArray)) (f : Nat → Nat) (h : j + 1 < n) : ((j + 1 : Nat) : Int).toNat * 1 + 1 ≤ (rwF rows n f).length := by rw [rwF_len, ix_1]; omega
theorem ix_e {j n : Nat} (rows : List (List ByteArray)) (f : Nat → Nat) (h : j + 1 < n) (hn : n ≤ 4096) (p : Nat) (d : DV) : (IntKind.i64.wrap (((j + 1 : Nat) : Int) - 1)).toNat * 1 + 1 ≤ (setMany (rwF rows n f) p [d]).length := by
  show _ ≤ ((rwF rows n f).set p d).length
  rw [List.length_set, rwF_len, ix_0 (by omega)]; omega
theorem swap_eq {rows : List (List ByteArray)} {n : Nat} {f : Nat → Nat} {j : Nat} (hj : j ≤ 4096) : setMany (setMany (rwF rows n f) (((j + 1 : Nat) : Int).toNat * 1) [strs (rows.getD (f ((IntKind.i64.wrap (((j + 1 : Nat) : Int) - 1)).toNat * 1)) [])]) ((IntKind.i64.wrap (((j + 1 : Nat) : Int) - 1)).toNat * 1) [strs (rows.getD (f (((j + 1 : Nat) : Int).toNat * 1)) [])] = rwF rows n (swf f (j + 1) j) := by
  rw [ix_1, ix_0 hj]; exact rwF_swap _ _
theorem cond_is {ks : List Int} {rows : List (List ByteArray)} {a j : Nat} {f : Nat → Nat} {b : Bool} (hj : j ≤ 4096) (h : (bif decide ((a : Int) < ((j + 1 : Nat) : Int)) then decide (cmpK ks (rows.getD (f (((j + 1 : Nat) : Int).toNat * 1)) []) (rows.getD (f ((IntKind.i64.wrap (((j + 1 : Nat) : Int) - 1)).toNat * 1)) []) < 0) else false) = b) :
    decide (a < j + 1 ∧ ltK ks rows (f (j + 1)) (f j) = true) = b := by
  rw [ix_1, ix_0 hj] at h
  rw [← h]
  by_cases e : a < j + 1
  · rw [decide_eq_true (show (a : Int) < ((j + 1 : Nat) : Int) by omega)]
    show _ = ltK ks rows (f (j + 1)) (f j)
    cases ltK ks rows (f (j + 1)) (f j) with
    | true => exact decide_eq_true ⟨e, rfl⟩
    | false => exact decide_eq_false (fun h => by cases h.2)
  · rw [decide_eq_false (show ¬ (a : Int) < ((j + 1 : Nat) : Int) by omega)]
    exact decide_eq_false (fun h => e h.1)
theorem insIn_t {lt : Nat → Nat → Bool} {a j : Nat} {f : Nat → Nat} (h : decide (a < j + 1 ∧ lt (f (j + 1)) (f j) = true) = true) : insIn lt a (j + 1) f = insIn lt a j (swf f (j + 1) j) := by
  rw [insIn, if_pos (of_decide_eq_true h)]
theorem insIn_f {lt : Nat → Nat → Bool} {a j : Nat} {f : Nat → Nat} (h : decide (a < j + 1 ∧ lt (f (j + 1)) (f j) = true) = false) : insIn lt a (j + 1) f = f := by
  rw [insIn, if_neg (of_decide_eq_false h)]
theorem insIn_z {lt : Nat → Nat → Bool} {a : Nat} {f : Nat → Nat} : insIn lt a 0 f = f := rfl
theorem insOut_s {lt : Nat → Nat → Bool} {a b i : Nat} {f : Nat → Nat} (h : i < b) : insOut lt a (b - i) i f = insOut lt a (b - (i + 1)) (i + 1) (insIn lt a i f) := by
  obtain ⟨k, hk⟩ : ∃ k, b - i = k + 1 := ⟨b - i - 1, by omega⟩
  rw [hk, show b - (i + 1) = k by omega]; rfl
attribute [local irreducible] rwF chC ltK insIn insOut cmpK
set_option maxRecDepth 20000 in
set_option maxHeartbeats 8000000 in
theorem ins122_S {ks : List Int} {rows : List (List ByteArray)} {n : Nat} (hS : SrtOk ks rows n) {a b : Nat} (ha : a ≤ n) (hb : b ≤ n) {f : Nat → Nat} (hf : Cl n f) :
    SCall Tryz.prog 122 [.arr 0 n, int1 a, int1 b, .clo (.func 63) [] [.ref 1 0]] (.of (stO ks rows n f) 3) fun r' s' => r' = .tup [] ∧ s' = .of (stO ks rows n (insF (ltK ks rows) a b f)) 3 := by
  have hn := hS.n
  refine SCall.retell (SCall.run Tryz.func122 rfl (Nat.le_of_ble_eq_true rfl) (by kernel_rfl) ?_)
  repeat' (first | with_reducible rfl | ((conv => whnf); first | refine And.intro ?_ ?_ | (intro h; first | with_reducible exact tf_no h | with_reducible exact ft_no h | exact Bool.noConfusion h | with_reducible exact h | (have ht : true = true := h; clear ht h) | skip) | ((with_reducible refine ECall.mark ?_); first | refine ECall.only ?_ (fun h => nomatch h) | refine ECall.only ?_ ?_) | ((with_reducible refine Drawn.mark ?_); first | refine Drawn.quiet (by kernel_rfl) ?_) | refine dcell_ok rfl ?_ | refine AppC.new ?_))
  all_goals first | (with_reducible refine enters_mark ?_; kernel_rfl) | (with_reducible refine boolT_mark ?_; kernel_rfl) | rfl | trivial | assumption | exact Nat.le_of_ble_eq_true rfl | (show entersB _ _ = true; kernel_rfl) | exact DW.same _ rfl | exact DW.ref _ _ _ rfl | exact DW.arr _ _ _ rfl | refine DW.int ?_ | refine dvb ?_ | refine dvi ?_ | exact OW.cells rfl rfl (DWl.same rfl) | exact Nat.zero_le _ | omega | skip
  all_goals repeat' (first | refine OW.cells rfl rfl ?_ | exact DW.nilArr _ rfl | refine DWl.cons ?_ ?_ | exact DWl.nil | exact DW.same _ rfl | exact DW.ref _ _ _ rfl | exact DW.arr _ _ _ rfl | exact DW.sub _ _ _ _ rfl | exact DW.mo _ _ rfl | exact DW.nilLst _ | refine DW.aggl ?_ | refine DW.tupl ?_ | refine DW.clol ?_ ?_)
  all_goals try ((conv => whnf); with_reducible first | refine Round.mark ?_ | refine Tells.mark ?_ | refine Retold.mark ?_)
  all_goals try first | (show (_ : Bool) = _; simp_all; done) | (show (_ : Int) < _; simp at *; omega) | (show (_ : Int) ≤ _; simp at *; omega) | (show (_ : Nat) < _; simp at *; omega) | (show (_ : Nat) ≤ _; simp at *; omega)
  conv => whnf
  refine Tri.loop (inO ks rows n a b) (fun p => a + 1 ≤ p.1 ∧ (p.1 ≤ b ∨ p.1 = a + 1) ∧ Cl n p.2 ∧ insOut (ltK ks rows) a (b - p.1) p.1 p.2 = insF (ltK ks rows) a b f) (fun p => b - p.1) (a + 1, f) (by kernel_rfl) (Weak.list [] [] (by kernel_rfl) ?_ ?_) ⟨Nat.le_refl _, .inr rfl, hf, rfl⟩ ?_
  iterate 2 · repeat' (first | exact wsucc (n := 4097) (by omega) (by decide) | exact DWl.eq rfl (chC_all _) | exact DWl.eq rfl (rwF_all _ _ _) | exact DW.same _ rfl | exact DW.ref _ _ _ rfl | exact DW.arr _ _ _ rfl | exact OW.cells rfl rfl (DWl.same rfl) | refine OW.cells rfl rfl ?_ | refine DWl.cons ?_ ?_ | exact DWl.nil | exact DW.nilArr _ rfl | exact DW.nilLst _ | refine DW.clol ?_ ?_ | refine DW.aggl ?_ | refine DW.tupl ?_ | refine DW.int ?_ | refine DW.bool ?_ | refine DW.str ?_ | refine DW.arrE rfl ?_ | ((conv => whnf); first | refine And.intro ?_ ?_ | trivial))
  intro ⟨i, g⟩ ⟨hi1, hi2, hg, he⟩
  show dcode _ _ _ _ (inO ks rows n a b (i, g)) _
  repeat' (first | with_reducible rfl | ((conv => whnf); first | refine And.intro ?_ ?_ | (intro h; first | with_reducible exact tf_no h | with_reducible exact ft_no h | exact Bool.noConfusion h | with_reducible exact h | (have ht : true = true := h; clear ht h) | skip) | ((with_reducible refine ECall.mark ?_); first | refine ECall.only ?_ (fun h => nomatch h) | refine ECall.only ?_ ?_) | ((with_reducible refine Drawn.mark ?_); first | refine Drawn.quiet (by kernel_rfl) ?_) | refine dcell_ok rfl ?_ | refine AppC.new ?_))
  all_goals try ((conv => whnf); with_reducible refine Round.mark ?_)
  all_goals try first | ((with_reducible show Option.isSome (slElem _ _) = true); kernel_rfl) | ((with_reducible show slElem _ _ = some _); kernel_rfl) | ((with_reducible refine enters_mark ?_); kernel_rfl) | (with_reducible assumption) | ((with_reducible show List.all _ DV.one = true); rfl) | ((with_reducible show (_ : Nat) = _); rfl) | ((with_reducible show (_ == true) = true); simpa using h) | ((with_reducible show (_ : Nat) ≤ _); exact Nat.le_of_ble_eq_true rfl) | ((with_reducible show (_ : Int) ≤ _); first | omega | decide) | ((with_reducible show (_ : Int) < _); first | omega | decide) | ((with_reducible show (_ : Nat) < _); omega) | ((with_reducible show (_ : Nat) ≤ _); omega)
  · have hib : i < b := lt_int h
    conv => whnf
    refine Tri.loop (inI ks rows n a b i) (fun q => q.1 ≤ i ∧ Cl n q.2 ∧ insIn (ltK ks rows) a q.1 q.2 = insIn (ltK ks rows) a i g) (fun q => q.1) (i, g) (by kernel_rfl) (Weak.list [] [] (by kernel_rfl) ?_ ?_) ⟨Nat.le_refl _, hg, rfl⟩ ?_
    iterate 2 · repeat' (first | exact DWl.eq rfl (chC_all _) | exact DWl.eq rfl (rwF_all _ _ _) | exact DW.same _ rfl | exact DW.ref _ _ _ rfl | exact DW.arr _ _ _ rfl | exact OW.cells rfl rfl (DWl.same rfl) | refine OW.cells rfl rfl ?_ | refine DWl.cons ?_ ?_ | exact DWl.nil | exact DW.nilArr _ rfl | exact DW.nilLst _ | refine DW.clol ?_ ?_ | refine DW.aggl ?_ | refine DW.tupl ?_ | refine DW.int ?_ | refine DW.bool ?_ | refine DW.str ?_ | refine DW.arrE rfl ?_ | ((conv => whnf); first | refine And.intro ?_ ?_ | trivial))
    intro ⟨j, g'⟩ ⟨hj, hg', he'⟩
    have hj : j ≤ i := hj
    cases j with
    | zero =>
      show dcode _ _ _ _ (inI ks rows n a b i (0, g')) _
      repeat' (first | with_reducible rfl | ((conv => whnf); first | refine And.intro ?_ ?_ | (intro h; first | with_reducible exact tf_no h | with_reducible exact ft_no h | exact Bool.noConfusion h | with_reducible exact h | (exfalso; simp at h; done) | (have ht : true = true := h; clear ht h) | skip) | ((with_reducible refine Tri.mark ?_); first | (refine Tri.treeX [1, 2] (MX.mv 0 0 (MX.mv 0 1 (MX.mv 0 2 (MX.mv 0 3 (MX.mv 0 4 (MX.mv 0 5 (MX.mv 0 6 (MX.mv 0 7 (MX.mv 0 8 (MX.mv 0 9 (MX.mv 0 10 (MX.mv 0 11 (MX.mv 0 12 (MX.mv 0 13 (MX.mv 2 14 (MX.mv 0 15 (MX.mv 0 16 MX.done))))))))))))))))) ?_ (by kernel_rfl) ?_; rfl)) | ((with_reducible refine ECall.mark ?_); first | refine ECall.alt (int1 0) (fun hg => absurd hg (no_gt a)) ?_ | refine ECall.only ?_ (fun h => nomatch h) | refine ECall.only ?_ ?_) | ((with_reducible refine Drawn.mark ?_); first | (refine Drawn.tree ?_; refine Tri.treeX [1, 2] (MX.mv 0 0 (MX.mv 0 1 (MX.mv 0 2 (MX.mv 0 3 (MX.mv 0 4 (MX.mv 0 5 (MX.mv 0 6 (MX.mv 0 7 (MX.mv 0 8 (MX.mv 0 9 (MX.mv 0 10 (MX.mv 0 11 (MX.mv 0 12 (MX.mv 0 13 (MX.mv 2 14 (MX.mv 0 15 (MX.mv 0 16 MX.done))))))))))))))))) ?_ (by kernel_rfl) ?_; rfl) | refine Drawn.quiet (by kernel_rfl) ?_) | refine dcell_at (strs []) (fun hg => absurd hg (no_gt a)) ?_ | refine dcell_ok rfl ?_ | refine AppC.new ?_))
      all_goals try ((conv => whnf); with_reducible refine Round.mark ?_)
      all_goals try first | ((with_reducible show Option.isSome (slElem _ _) = true); kernel_rfl) | ((with_reducible show slElem _ _ = some _); kernel_rfl) | ((with_reducible refine enters_mark ?_); kernel_rfl) | (with_reducible assumption) | ((with_reducible show List.all _ DV.one = true); rfl) | ((with_reducible show (_ : Nat) = _); rfl) | ((with_reducible show (_ == true) = true); simpa using h) | ((with_reducible show (_ : Nat) ≤ _); exact Nat.le_of_ble_eq_true rfl) | ((with_reducible show (_ : Int) ≤ _); first | omega | decide) | ((with_reducible show (_ : Int) < _); first | omega | decide) | ((with_reducible show (_ : Nat) < _); omega) | ((with_reducible show (_ : Nat) ≤ _); omega)
      all_goals try (exact absurd h (no_gt a); done)
      refine Round.go (fun _ => (i + 1, g')) ⟨by show a + 1 ≤ i + 1; omega, .inl hib, hg', by rw [← he, insOut_s hib, ← he', insIn_z]⟩ (by show b - (i + 1) < b - i; omega) (Weak.list [] [] (by kernel_rfl) ?_ ?_)
      iterate 2 · repeat' (first | exact wsucc hib (by omega) | exact DWl.eq rfl (chC_all _) | exact DWl.eq rfl (rwF_all _ _ _) | exact DW.same _ rfl | exact DW.ref _ _ _ rfl | exact DW.arr _ _ _ rfl | exact OW.cells rfl rfl (DWl.same rfl) | refine OW.cells rfl rfl ?_ | refine DWl.cons ?_ ?_ | exact DWl.nil | exact DW.nilArr _ rfl | exact DW.nilLst _ | refine DW.clol ?_ ?_ | refine DW.aggl ?_ | refine DW.tupl ?_ | refine DW.int ?_ | refine DW.bool ?_ | refine DW.str ?_ | refine DW.arrE rfl ?_ | ((conv => whnf); first | refine And.intro ?_ ?_ | trivial))
    | succ j =>
      have hjn : j + 1 < n := by omega
      have hj4 : j ≤ 4096 := by omega
      show dcode _ _ _ _ (inI ks rows n a b i (j + 1, g')) _
      repeat' (first | with_reducible rfl | ((conv => whnf); first | refine And.intro ?_ ?_ | (intro h; first | with_reducible exact tf_no h | with_reducible exact ft_no h | exact Bool.noConfusion h | with_reducible exact h | (exfalso; simp at h; done) | (have ht : true = true := h; clear ht h) | skip) | ((with_reducible refine Tri.mark ?_); first | (refine Tri.treeX [1, 2] (MX.mv 0 0 (MX.mv 0 1 (MX.mv 0 2 (MX.mv 0 3 (MX.mv 0 4 (MX.mv 0 5 (MX.mv 0 6 (MX.mv 0 7 (MX.mv 0 8 (MX.mv 0 9 (MX.mv 0 10 (MX.mv 0 11 (MX.mv 0 12 (MX.mv 0 13 (MX.mv 2 14 (MX.mv 0 15 (MX.mv 0 16 MX.done))))))))))))))))) ?_ (by kernel_rfl) ?_; rfl) | (refine Tri.treeX [0] (MX.mv 0 0 (MX.mv 0 1 (MX.mv 0 2 (MX.mv 0 3 (MX.mv 0 4 (MX.mv 0 5 (MX.mv 0 6 (MX.mv 0 7 (MX.mv 0 8 (MX.mv 0 10 (MX.mv 0 11 (MX.mv 0 12 (MX.two 1 9 (MX.mv 1 13 (MX.mv 0 14 (MX.mv 1 15 (MX.mv 1 16 (MX.mv 1 17 MX.done))))) 1 13 (MX.mv 1 9 (MX.mv 0 14 (MX.mv 1 15 (MX.mv 1 16 (MX.mv 1 17 MX.done)))))))))))))))))) ?_ (by kernel_rfl) ?_; rfl)) | ((with_reducible refine ECall.mark ?_); first | refine ECall.alt (int1 0) (fun hg => SCall.at [1, 2] (fun _ => atO ks) (fun _ => int1 (cmpK ks (rows.getD (g' (((j + 1 : Nat) : Int).toNat * 1)) []) (rows.getD (g' ((IntKind.i64.wrap (((j + 1 : Nat) : Int) - 1)).toNat * 1)) []))) 0 (cmp_rows hS (by rw [ix_1]; exact hg' _ hjn) (by rw [ix_0 (by omega)]; exact hg' j (by omega))) (by kernel_rfl) ⟨OW.cells rfl rfl (DWl.cons (DW.arr _ _ _ rfl) DWl.nil), OW.cells rfl rfl (DWl.eq rfl (chC_all _)), trivial⟩ (DWl.cons (DW.same _ rfl) (DWl.cons (DW.same _ rfl) (DWl.cons (DW.ref _ _ _ rfl) DWl.nil))) (DW.same _ rfl) ⟨OW.cells rfl rfl (DWl.cons (DW.arr _ _ _ rfl) DWl.nil), OW.cells rfl rfl (DWl.eq rfl (chC_all _)), trivial⟩ ?_) ?_ | refine ECall.only ?_ (fun h => nomatch h) | refine ECall.only ?_ ?_) | ((with_reducible refine Drawn.mark ?_); first | (refine Drawn.tree ?_; refine Tri.treeX [1, 2] (MX.mv 0 0 (MX.mv 0 1 (MX.mv 0 2 (MX.mv 0 3 (MX.mv 0 4 (MX.mv 0 5 (MX.mv 0 6 (MX.mv 0 7 (MX.mv 0 8 (MX.mv 0 9 (MX.mv 0 10 (MX.mv 0 11 (MX.mv 0 12 (MX.mv 0 13 (MX.mv 2 14 (MX.mv 0 15 (MX.mv 0 16 MX.done))))))))))))))))) ?_ (by kernel_rfl) ?_; rfl) | (refine Drawn.tree ?_; refine Tri.treeX [0] (MX.mv 0 0 (MX.mv 0 1 (MX.mv 0 2 (MX.mv 0 3 (MX.mv 0 4 (MX.mv 0 5 (MX.mv 0 6 (MX.mv 0 7 (MX.mv 0 8 (MX.mv 0 10 (MX.mv 0 11 (MX.mv 0 12 (MX.two 1 9 (MX.mv 1 13 (MX.mv 0 14 (MX.mv 1 15 (MX.mv 1 16 (MX.mv 1 17 MX.done))))) 1 13 (MX.mv 1 9 (MX.mv 0 14 (MX.mv 1 15 (MX.mv 1 16 (MX.mv 1 17 MX.done)))))))))))))))))) ?_ (by kernel_rfl) ?_; rfl) | refine Drawn.quiet (by kernel_rfl) ?_) | refine dcell_at _ (fun _ => rwF_get ?_) ?_ | refine dcell_ok rfl ?_ | refine AppC.new ?_))
      all_goals try ((conv => whnf); with_reducible refine Round.mark ?_)
      all_goals try (first | ((with_reducible refine enters_mark ?_); kernel_rfl) | ((with_reducible show Option.all _ _ = true); rfl) | (with_reducible exact ix_a hjn hn) | (with_reducible exact ix_b hjn hn) | (with_reducible exact ix_c hjn hn) | (with_reducible exact ix_d rows g' hjn) | (with_reducible exact ix_e rows g' hjn hn _ _))
      all_goals try first | ((with_reducible show Option.isSome (slElem _ _) = true); kernel_rfl) | ((with_reducible show slElem _ _ = some _); kernel_rfl) | ((with_reducible refine enters_mark ?_); kernel_rfl) | (with_reducible assumption) | ((with_reducible show List.all _ DV.one = true); rfl) | ((with_reducible show (_ : Nat) = _); rfl) | ((with_reducible show (_ == true) = true); simpa using h) | ((with_reducible show (_ : Nat) ≤ _); exact Nat.le_of_ble_eq_true rfl) | ((with_reducible show (_ : Int) ≤ _); first | omega | decide) | ((with_reducible show (_ : Int) < _); first | omega | decide) | ((with_reducible show (_ : Nat) < _); omega) | ((with_reducible show (_ : Nat) ≤ _); omega)
      · have hc := cond_is hj4 h
        refine Round.go (fun _ => (j, swf g' (j + 1) j)) ⟨by show j ≤ i; omega, hg'.swf hjn (by omega), by rw [← he', insIn_t hc]⟩ (Nat.lt_succ_self _) (Weak.list [] [] (by kernel_rfl) ?_ ?_)
        iterate 2 · repeat' (first | exact ix_w hj4 | exact DWl.eq rfl (chC_all _) | exact DWl.eq (swap_eq hj4) (rwF_all _ _ _) | exact DW.same _ rfl | exact DW.ref _ _ _ rfl | exact DW.arr _ _ _ rfl | exact OW.cells rfl rfl (DWl.same rfl) | refine OW.cells rfl rfl ?_ | refine DWl.cons ?_ ?_ | exact DWl.nil | exact DW.nilArr _ rfl | exact DW.nilLst _ | refine DW.clol ?_ ?_ | refine DW.aggl ?_ | refine DW.tupl ?_ | refine DW.int ?_ | refine DW.bool ?_ | refine DW.str ?_ | refine DW.arrE rfl ?_ | ((conv => whnf); first | refine And.intro ?_ ?_ | trivial))
      · have hc := cond_is hj4 h
        refine Round.go (fun _ => (j, swf g' (j + 1) j)) ⟨by show j ≤ i; omega, hg'.swf hjn (by omega), by rw [← he', insIn_t hc]⟩ (Nat.lt_succ_self _) (Weak.list [] [] (by kernel_rfl) ?_ ?_)
        iterate 2 · repeat' (first | exact ix_w hj4 | exact DWl.eq rfl (chC_all _) | exact DWl.eq (swap_eq hj4) (rwF_all _ _ _) | exact DW.same _ rfl | exact DW.ref _ _ _ rfl | exact DW.arr _ _ _ rfl | exact OW.cells rfl rfl (DWl.same rfl) | refine OW.cells rfl rfl ?_ | refine DWl.cons ?_ ?_ | exact DWl.nil | exact DW.nilArr _ rfl | exact DW.nilLst _ | refine DW.clol ?_ ?_ | refine DW.aggl ?_ | refine DW.tupl ?_ | refine DW.int ?_ | refine DW.bool ?_ | refine DW.str ?_ | refine DW.arrE rfl ?_ | ((conv => whnf); first | refine And.intro ?_ ?_ | trivial))
      · have hc := cond_is hj4 h
        refine Round.go (fun _ => (i + 1, g')) ⟨by show a + 1 ≤ i + 1; omega, .inl hib, hg', by rw [← he, insOut_s hib, ← he', insIn_f hc]⟩ (by show b - (i + 1) < b - i; omega) (Weak.list [] [] (by kernel_rfl) ?_ ?_)
        iterate 2 · repeat' (first | exact wsucc hib (by omega) | exact DWl.eq rfl (chC_all _) | exact DWl.eq rfl (rwF_all _ _ _) | exact DW.same _ rfl | exact DW.ref _ _ _ rfl | exact DW.arr _ _ _ rfl | exact OW.cells rfl rfl (DWl.same rfl) | refine OW.cells rfl rfl ?_ | refine DWl.cons ?_ ?_ | exact DWl.nil | exact DW.nilArr _ rfl | exact DW.nilLst _ | refine DW.clol ?_ ?_ | refine DW.aggl ?_ | refine DW.tupl ?_ | refine DW.int ?_ | refine DW.bool ?_ | refine DW.str ?_ | refine DW.arrE rfl ?_ | ((conv => whnf); first | refine And.intro ?_ ?_ | trivial))
      · rename_i hga
        have hc : decide (a < j + 1 ∧ ltK ks rows (g' (j + 1)) (g' j) = true) = false := decide_eq_false (fun hh => absurd hga (by have h1 := hh.1; simp; omega))
        refine Round.go (fun _ => (i + 1, g')) ⟨by show a + 1 ≤ i + 1; omega, .inl hib, hg', by rw [← he, insOut_s hib, ← he', insIn_f hc]⟩ (by show b - (i + 1) < b - i; omega) (Weak.list [] [] (by kernel_rfl) ?_ ?_)
        iterate 2 · repeat' (first | exact wsucc hib (by omega) | exact DWl.eq rfl (chC_all _) | exact DWl.eq rfl (rwF_all _ _ _) | exact DW.same _ rfl | exact DW.ref _ _ _ rfl | exact DW.arr _ _ _ rfl | exact OW.cells rfl rfl (DWl.same rfl) | refine OW.cells rfl rfl ?_ | refine DWl.cons ?_ ?_ | exact DWl.nil | exact DW.nilArr _ rfl | exact DW.nilLst _ | refine DW.clol ?_ ?_ | refine DW.aggl ?_ | refine DW.tupl ?_ | refine DW.int ?_ | refine DW.bool ?_ | refine DW.str ?_ | refine DW.arrE rfl ?_ | ((conv => whnf); first | refine And.intro ?_ ?_ | trivial))
  · repeat' (first | with_reducible rfl | ((conv => whnf); first | refine And.intro ?_ ?_ | (intro h; first | with_reducible exact tf_no h | with_reducible exact ft_no h | exact Bool.noConfusion h | with_reducible exact h | (have ht : true = true := h; clear ht h) | skip) | ((with_reducible refine ECall.mark ?_); first | refine ECall.only ?_ (fun h => nomatch h) | refine ECall.only ?_ ?_) | ((with_reducible refine Drawn.mark ?_); first | refine Drawn.quiet (by kernel_rfl) ?_) | refine dcell_ok rfl ?_ | refine AppC.new ?_))
    conv => whnf
    have e0 : insOut (ltK ks rows) a (b - i) i g = g := by rw [show b - i = 0 by have := ge_int h; omega]; exact insOut_0 _ _ _ _
    refine Retold.list [] [] (.tup []) (stO ks rows n (insF (ltK ks rows) a b f)) 3 (by kernel_rfl) ?_ ?_ ⟨rfl, rfl⟩
    iterate 2 · repeat' (first | exact DWl.eq rfl (chC_all _) | exact DWl.eq (congrArg (rwF rows n) (e0.symm.trans he)) (rwF_all _ _ _) | exact DW.same _ rfl | exact DW.ref _ _ _ rfl | exact DW.arr _ _ _ rfl | exact OW.cells rfl rfl (DWl.same rfl) | refine OW.cells rfl rfl ?_ | refine DWl.cons ?_ ?_ | exact DWl.nil | exact DW.nilArr _ rfl | exact DW.nilLst _ | refine DW.clol ?_ ?_ | refine DW.aggl ?_ | refine DW.tupl ?_ | refine DW.int ?_ | refine DW.bool ?_ | refine DW.str ?_ | refine DW.arrE rfl ?_ | ((conv => whnf); first | refine And.intro ?_ ?_ | trivial))
end Go.Proofs.YtlchjjchgebfiaaGreatDoor
namespace Go.Proofs.YtlchjjchgebfiaaGreatDoor
open Go.RowKit Go.Dl Go.Dl.Stb
attribute [local irreducible] Tri SCall TSem ECall Drawn DFun QSem PSem PCall GCall MCall Round Go.Dl.Weak dloadE OW DWl Tells IntKind.wrap Retold ESem
theorem sx_w {a i : Nat} (h : a + i ≤ 100000) : IntKind.i64.wrap ((a : Int) + (i : Int)) = ((a + i : Nat) : Int) := by
  rw [IntKind.wrap_i64]; omega
theorem sx_a {a i n : Nat} (h : a + i < n) (hn : n ≤ 4096) : 0 ≤ IntKind.i64.wrap ((a : Int) + (i : Int)) := by rw [sx_w (by omega)]; omega
theorem sx_b {a i n : Nat} (h : a + i < n) (hn : n ≤ 4096) : IntKind.i64.wrap ((a : Int) + (i : Int)) < (n : Int) := by rw [sx_w (by omega)]; omega
theorem sx_0 {a i : Nat} (h : a + i ≤ 4096) : (IntKind.i64.wrap ((a : Int) + (i : Int))).toNat * 1 = a + i := by rw [sx_w (by omega)]; omega
theorem sx_c {a i n : Nat} (h : a + i < n) (hn : n ≤ 4096) : (IntKind.i64.wrap ((a : Int) + (i : Int))).toNat * 1 < n := by rw [sx_0 (by omega)]; exact h
theorem sx_d {a i n : Nat} (rows : List (List ByteArray)) (f : Nat → Nat) (h : a + i < n) (hn : n ≤ 4096) : (IntKind.i64.wrap ((a : Int) + (i : Int))).toNat * 1 + 1 ≤ (rwF rows n f).length := by
  rw [rwF_len, sx_0 (by omega)]; omega
theorem sx_e {a i n : Nat} (rows : List (List ByteArray)) (f : Nat → Nat) (h : a + i < n) (hn : n ≤ 4096) (p : Nat) (d : DV) : (IntKind.i64.wrap ((a : Int) + (i : Int))).toNat * 1 + 1 ≤ (setMany (rwF rows n f) p [d]).length := by
  show _ ≤ ((rwF rows n f).set p d).length
  rw [List.length_set, rwF_len, sx_0 (by omega)]; omega
theorem sx_swap {rows : List (List ByteArray)} {n : Nat} {f : Nat → Nat} {a b i : Nat} (h1 : a + i ≤ 4096) (h2 : b + i ≤ 4096) :
    setMany (setMany (rwF rows n f) ((IntKind.i64.wrap ((a : Int) + (i : Int))).toNat * 1) [strs (rows.getD (f ((IntKind.i64.wrap ((b : Int) + (i : Int))).toNat * 1)) [])]) ((IntKind.i64.wrap ((b : Int) + (i : Int))).toNat * 1) [strs (rows.getD (f ((IntKind.i64.wrap ((a : Int) + (i : Int))).toNat * 1)) [])] = rwF rows n (swf f (a + i) (b + i)) := by
  rw [sx_0 h1, sx_0 h2]; exact rwF_swap _ _
theorem sx_lt {i c : Nat} (h : decide ((i : Int) < (c : Int)) = true) : i < c := lt_int h
theorem sx_z (rows : List (List ByteArray)) (n a b : Nat) (f : Nat → Nat) : rwF rows n f = rwF rows n (swR a b 0 f) := rfl
theorem sx_s {rows : List (List ByteArray)} {n : Nat} {f : Nat → Nat} {a b i : Nat} (h1 : a + i ≤ 4096) (h2 : b + i ≤ 4096) :
    setMany (setMany (rwF rows n (swR a b i f)) ((IntKind.i64.wrap ((a : Int) + (i : Int))).toNat * 1) [strs (rows.getD ((swR a b i f) ((IntKind.i64.wrap ((b : Int) + (i : Int))).toNat * 1)) [])]) ((IntKind.i64.wrap ((b : Int) + (i : Int))).toNat * 1) [strs (rows.getD ((swR a b i f) ((IntKind.i64.wrap ((a : Int) + (i : Int))).toNat * 1)) [])] = rwF rows n (swR a b (i + 1) f) := sx_swap h1 h2
theorem sx_end {i c : Nat} (hi : i ≤ c) (h : decide ((i : Int) < (c : Int)) = false) : i = c := by have := of_decide_eq_false h; omega
def swSt (ks : List Int) (rows : List (List ByteArray)) (n a b c : Nat) (f : Nat → Nat) (i : Nat) : St := ⟨⟨3, []⟩, tmOf [(0, .arr 0 n), (1, int1 a), (2, int1 b), (3, int1 c), (10, int1 i)], .of (stO ks rows n (swR a b i f)) 3⟩
attribute [local irreducible] rwF chC swR
set_option maxRecDepth 20000 in
set_option maxHeartbeats 4000000 in
theorem swp162_S {ks : List Int} {rows : List (List ByteArray)} {n : Nat} (hS : SrtOk ks rows n) {a b c : Nat} (ha : a + c ≤ n) (hb : b + c ≤ n) (f : Nat → Nat) :
    SCall Tryz.prog 162 [.arr 0 n, int1 a, int1 b, int1 c, .clo (.func 63) [] [.ref 1 0]] (.of (stO ks rows n f) 3) fun r' s' => r' = .tup [] ∧ s' = .of (stO ks rows n (swR a b c f)) 3 := by
  have hn := hS.n
  refine SCall.retell (SCall.run Tryz.func162 rfl (Nat.le_of_ble_eq_true rfl) (by kernel_rfl) ?_)
  repeat' (first | with_reducible rfl | ((conv => whnf); first | refine And.intro ?_ ?_ | (intro h; first | with_reducible exact tf_no h | with_reducible exact ft_no h | exact Bool.noConfusion h | with_reducible exact h | (have ht : true = true := h; clear ht h) | skip) | ((with_reducible refine ECall.mark ?_); first | refine ECall.only ?_ (fun h => nomatch h) | refine ECall.only ?_ ?_) | ((with_reducible refine Drawn.mark ?_); first | refine Drawn.quiet (by kernel_rfl) ?_) | refine dcell_ok rfl ?_ | refine AppC.new ?_))
  all_goals first | (with_reducible refine enters_mark ?_; kernel_rfl) | (with_reducible refine boolT_mark ?_; kernel_rfl) | rfl | trivial | assumption | exact Nat.le_of_ble_eq_true rfl | (show entersB _ _ = true; kernel_rfl) | exact DW.same _ rfl | exact DW.ref _ _ _ rfl | exact DW.arr _ _ _ rfl | refine DW.int ?_ | refine dvb ?_ | refine dvi ?_ | exact OW.cells rfl rfl (DWl.same rfl) | exact Nat.zero_le _ | omega | skip
  all_goals repeat' (first | refine OW.cells rfl rfl ?_ | exact DW.nilArr _ rfl | refine DWl.cons ?_ ?_ | exact DWl.nil | exact DW.same _ rfl | exact DW.ref _ _ _ rfl | exact DW.arr _ _ _ rfl | exact DW.sub _ _ _ _ rfl | exact DW.mo _ _ rfl | exact DW.nilLst _ | refine DW.aggl ?_ | refine DW.tupl ?_ | refine DW.clol ?_ ?_)
  all_goals try ((conv => whnf); with_reducible first | refine Round.mark ?_ | refine Tells.mark ?_ | refine Retold.mark ?_)
  all_goals try first | (show (_ : Bool) = _; simp_all; done) | (show (_ : Int) < _; simp at *; omega) | (show (_ : Int) ≤ _; simp at *; omega) | (show (_ : Nat) < _; simp at *; omega) | (show (_ : Nat) ≤ _; simp at *; omega)
  conv => whnf
  refine Tri.loop (swSt ks rows n a b c f) (fun i => i ≤ c) (fun i => c - i) 0 (by kernel_rfl) (Go.Dl.Weak.list [] [] (by kernel_rfl) ?_ ?_) (Nat.zero_le _) ?_
  iterate 2 · repeat' (first | exact DWl.eq rfl (chC_all _) | exact DWl.eq (sx_z rows n a b f) (rwF_all _ _ _) | exact DW.same _ rfl | exact DW.ref _ _ _ rfl | exact DW.arr _ _ _ rfl | exact OW.cells rfl rfl (DWl.same rfl) | refine OW.cells rfl rfl ?_ | refine DWl.cons ?_ ?_ | exact DWl.nil | exact DW.nilArr _ rfl | exact DW.nilLst _ | refine DW.clol ?_ ?_ | refine DW.aggl ?_ | refine DW.tupl ?_ | refine DW.int ?_ | refine DW.bool ?_ | refine DW.str ?_ | refine DW.arrE rfl ?_ | ((conv => whnf); first | refine And.intro ?_ ?_ | trivial))
  intro i hi
  have hi : i ≤ c := hi
  show dcode _ _ _ _ (swSt ks rows n a b c f i) _
  repeat' (first | with_reducible rfl | ((conv => whnf); first | refine And.intro ?_ ?_ | (intro h; first | with_reducible exact tf_no h | with_reducible exact ft_no h | exact Bool.noConfusion h | with_reducible exact h | (have ht : true = true := h; clear ht h) | skip) | ((with_reducible refine Tri.mark ?_); first | (refine Tri.treeX [0] (MX.mv 0 0 (MX.mv 0 1 (MX.mv 0 2 (MX.mv 0 3 (MX.mv 0 4 (MX.mv 0 5 (MX.mv 0 6 (MX.mv 0 7 (MX.mv 0 8 (MX.mv 0 9 (MX.mv 0 10 (MX.mv 0 11 (MX.mv 0 12 (MX.mv 0 14 (MX.mv 0 15 (MX.mv 0 16 (MX.mv 0 17 (MX.mv 0 18 (MX.two 1 13 (MX.mv 1 19 (MX.mv 0 20 (MX.mv 1 21 (MX.mv 1 22 (MX.mv 1 23 MX.done))))) 1 19 (MX.mv 1 13 (MX.mv 0 20 (MX.mv 1 21 (MX.mv 1 22 (MX.mv 1 23 MX.done)))))))))))))))))))))))) ?_ (by kernel_rfl) ?_; rfl)) | ((with_reducible refine ECall.mark ?_); first | refine ECall.only ?_ (fun h => nomatch h) | refine ECall.only ?_ ?_) | ((with_reducible refine Drawn.mark ?_); first | (refine Drawn.tree ?_; refine Tri.treeX [0] (MX.mv 0 0 (MX.mv 0 1 (MX.mv 0 2 (MX.mv 0 3 (MX.mv 0 4 (MX.mv 0 5 (MX.mv 0 6 (MX.mv 0 7 (MX.mv 0 8 (MX.mv 0 9 (MX.mv 0 10 (MX.mv 0 11 (MX.mv 0 12 (MX.mv 0 14 (MX.mv 0 15 (MX.mv 0 16 (MX.mv 0 17 (MX.mv 0 18 (MX.two 1 13 (MX.mv 1 19 (MX.mv 0 20 (MX.mv 1 21 (MX.mv 1 22 (MX.mv 1 23 MX.done))))) 1 19 (MX.mv 1 13 (MX.mv 0 20 (MX.mv 1 21 (MX.mv 1 22 (MX.mv 1 23 MX.done)))))))))))))))))))))))) ?_ (by kernel_rfl) ?_; rfl) | refine Drawn.quiet (by kernel_rfl) ?_) | refine dcell_at _ (fun _ => rwF_get ?_) ?_ | refine dcell_ok rfl ?_ | refine AppC.new ?_))
  all_goals try ((conv => whnf); with_reducible refine Round.mark ?_)
  all_goals try have hic := sx_lt h
  all_goals try have ha2 : a + i < n := by omega
  all_goals try have hb2 : b + i < n := by omega
  all_goals try (first | ((with_reducible refine enters_mark ?_); kernel_rfl) | ((with_reducible show Option.all _ _ = true); rfl) | (with_reducible exact sx_a ha2 hn) | (with_reducible exact sx_a hb2 hn) | (with_reducible exact sx_b ha2 hn) | (with_reducible exact sx_b hb2 hn) | (with_reducible exact sx_c ha2 hn) | (with_reducible exact sx_c hb2 hn) | (with_reducible exact sx_d rows _ ha2 hn) | (with_reducible exact sx_d rows _ hb2 hn) | (with_reducible exact sx_e rows _ ha2 hn _ _) | (with_reducible exact sx_e rows _ hb2 hn _ _))
  all_goals try first | ((with_reducible show Option.isSome (slElem _ _) = true); kernel_rfl) | ((with_reducible show slElem _ _ = some _); kernel_rfl) | ((with_reducible refine enters_mark ?_); kernel_rfl) | (with_reducible assumption) | ((with_reducible show List.all _ DV.one = true); rfl) | ((with_reducible show (_ : Nat) = _); rfl) | ((with_reducible show (_ == true) = true); simpa using h) | ((with_reducible show (_ : Nat) ≤ _); exact Nat.le_of_ble_eq_true rfl) | ((with_reducible show (_ : Int) ≤ _); first | omega | decide) | ((with_reducible show (_ : Int) < _); first | omega | decide) | ((with_reducible show (_ : Nat) < _); omega) | ((with_reducible show (_ : Nat) ≤ _); omega)
  iterate 2
    · refine Round.go (fun _ => i + 1) (show i + 1 ≤ c from hic) (show c - (i + 1) < c - i by omega) (Weak.list [] [] (by kernel_rfl) ?_ ?_)
      iterate 2 · repeat' (first | exact wsucc hic (by omega) | exact DWl.eq rfl (chC_all _) | exact DWl.eq (sx_s (by omega) (by omega)) (rwF_all _ _ _) | exact DW.same _ rfl | exact DW.ref _ _ _ rfl | exact DW.arr _ _ _ rfl | exact OW.cells rfl rfl (DWl.same rfl) | refine OW.cells rfl rfl ?_ | refine DWl.cons ?_ ?_ | exact DWl.nil | exact DW.nilArr _ rfl | exact DW.nilLst _ | refine DW.clol ?_ ?_ | refine DW.aggl ?_ | refine DW.tupl ?_ | refine DW.int ?_ | refine DW.bool ?_ | refine DW.str ?_ | refine DW.arrE rfl ?_ | ((conv => whnf); first | refine And.intro ?_ ?_ | trivial))
  · have hic := sx_end hi h
    subst hic
    repeat' (first | with_reducible rfl | ((conv => whnf); first | refine And.intro ?_ ?_ | (intro h; first | with_reducible exact tf_no h | with_reducible exact ft_no h | exact Bool.noConfusion h | with_reducible exact h | (have ht : true = true := h; clear ht h) | skip) | ((with_reducible refine ECall.mark ?_); first | refine ECall.only ?_ (fun h => nomatch h) | refine ECall.only ?_ ?_) | ((with_reducible refine Drawn.mark ?_); first | refine Drawn.quiet (by kernel_rfl) ?_) | refine dcell_ok rfl ?_ | refine AppC.new ?_))
    conv => whnf
    refine Retold.list [] [] (.tup []) (stO ks rows n (swR a b i f)) 3 (by kernel_rfl) ?_ ?_ ⟨rfl, rfl⟩
    iterate 2 · repeat' (first | exact DWl.eq rfl (chC_all _) | exact DWl.eq rfl (rwF_all _ _ _) | exact DW.same _ rfl | exact DW.ref _ _ _ rfl | exact DW.arr _ _ _ rfl | exact OW.cells rfl rfl (DWl.same rfl) | refine OW.cells rfl rfl ?_ | refine DWl.cons ?_ ?_ | exact DWl.nil | exact DW.nilArr _ rfl | exact DW.nilLst _ | refine DW.clol ?_ ?_ | refine DW.aggl ?_ | refine DW.tupl ?_ | refine DW.int ?_ | refine DW.bool ?_ | refine DW.str ?_ | refine DW.arrE rfl ?_ | ((conv => whnf); first | refine And.intro ?_ ?_ | trivial))
end Go.Proofs.YtlchjjchgebfiaaGreatDoor
namespace Go.Proofs.YtlchjjchgebfiaaGreatDoor
open Go.RowKit Go.Dl Go.Dl.Stb
attribute [local irreducible] Tri SCall TSem ECall Drawn DFun QSem PSem PCall GCall MCall Round Go.Dl.Weak dloadE OW DWl Tells IntKind.wrap Retold ESem
theorem rot_gt {m i j : Nat} {f : Nat → Nat} (h : j < i) (hi : i ≤ m) (hj : 0 < j) : rotS m (i - j) j (swR (m - i) m j f) = rotS m i j f := by
  rw [← rotL_is (i + j - 1 + 1) i j f hi (by omega) hj (by omega)]
  unfold rotL
  rw [if_neg (by omega), if_pos h, rotL_is (i + j - 1) (i - j) j _ (by omega) (by omega) hj (by omega)]
theorem rot_lt {m i j : Nat} {f : Nat → Nat} (h : i < j) (hi : i ≤ m) (h0 : 0 < i) : rotS m i (j - i) (swR (m - i) (m + j - i) i f) = rotS m i j f := by
  rw [← rotL_is (i + j - 1 + 1) i j f hi h0 (by omega) (by omega)]
  unfold rotL
  rw [if_neg (by omega), if_neg (by omega), rotL_is (i + j - 1) i (j - i) _ hi h0 (by omega) (by omega)]
theorem rot_eq {m i : Nat} {f : Nat → Nat} (hi : i ≤ m) (h0 : 0 < i) : swR (m - i) m i f = rotS m i i f := by
  rw [← rotL_is (i + i - 1 + 1) i i f hi h0 h0 (by omega)]
  unfold rotL
  rw [if_pos rfl]
theorem rx_a {m i : Nat} (hi : i ≤ m) (hm : m ≤ 4096) : IntKind.i64.wrap ((m : Int) - (i : Int)) = ((m - i : Nat) : Int) := by rw [IntKind.wrap_i64]; omega
theorem rx_b {m i j : Nat} (hi : i ≤ m) (hm : m + j ≤ 4096) : IntKind.i64.wrap (IntKind.i64.wrap ((m : Int) + (j : Int)) - (i : Int)) = ((m + j - i : Nat) : Int) := by
  rw [sx_w (by omega), IntKind.wrap_i64]; omega
theorem bne_f {i j : Nat} (h : ((i : Int) != (j : Int)) = false) : i = j := by
  have h2 : ((i : Int) == (j : Int)) = true := by rw [bne] at h; revert h; cases ((i : Int) == (j : Int)) <;> simp
  have := eq_of_beq h2; omega
theorem bne_t {i j : Nat} (h : ((i : Int) != (j : Int)) = true) : i ≠ j := by
  intro e; subst e; simp at h
theorem rx_n {i j m n : Nat} (h : ((i : Int) != (j : Int)) = false) (hj : m + j ≤ n) : m + i ≤ n := by rw [bne_f h]; exact hj
def roSt (ks : List Int) (rows : List (List ByteArray)) (n lo m hi : Nat) (p : Nat × Nat × (Nat → Nat)) : St := ⟨⟨3, []⟩, tmOf [(0, .arr 0 n), (1, int1 lo), (2, int1 m), (3, int1 hi), (4, .clo (.func 63) [] [.ref 1 0]), (10, int1 p.1), (11, int1 p.2.1)], .of (stO ks rows n p.2.2) 3⟩
attribute [local irreducible] rwF chC swR rotS
set_option maxRecDepth 20000 in
set_option maxHeartbeats 4000000 in
theorem rot143_S {ks : List Int} {rows : List (List ByteArray)} {n : Nat} (hS : SrtOk ks rows n) {lo m hi : Nat} (h1 : lo < m) (h2 : m < hi) (h3 : hi ≤ n) (f : Nat → Nat) :
    SCall Tryz.prog 143 [.arr 0 n, int1 lo, int1 m, int1 hi, .clo (.func 63) [] [.ref 1 0]] (.of (stO ks rows n f) 3) fun r' s' => r' = .tup [] ∧ s' = .of (stO ks rows n (rotS m (m - lo) (hi - m) f)) 3 := by
  have hn := hS.n
  have hm4 : m ≤ 4096 := by omega
  have hh4 : hi ≤ 4096 := by omega
  refine SCall.retell (SCall.run Tryz.func143 rfl (Nat.le_of_ble_eq_true rfl) (by kernel_rfl) ?_)
  repeat' (first | with_reducible rfl | ((conv => whnf); first | refine And.intro ?_ ?_ | (intro h; first | with_reducible exact tf_no h | with_reducible exact ft_no h | exact Bool.noConfusion h | with_reducible exact h | (have ht : true = true := h; clear ht h) | skip) | ((with_reducible refine ECall.mark ?_); first | refine ECall.only ?_ (fun h => nomatch h) | refine ECall.only ?_ ?_) | ((with_reducible refine Drawn.mark ?_); first | refine Drawn.quiet (by kernel_rfl) ?_) | refine dcell_ok rfl ?_ | refine AppC.new ?_))
  all_goals first | (with_reducible refine enters_mark ?_; kernel_rfl) | (with_reducible refine boolT_mark ?_; kernel_rfl) | rfl | trivial | assumption | exact Nat.le_of_ble_eq_true rfl | (show entersB _ _ = true; kernel_rfl) | exact DW.same _ rfl | exact DW.ref _ _ _ rfl | exact DW.arr _ _ _ rfl | refine DW.int ?_ | refine dvb ?_ | refine dvi ?_ | exact OW.cells rfl rfl (DWl.same rfl) | exact Nat.zero_le _ | omega | skip
  all_goals repeat' (first | refine OW.cells rfl rfl ?_ | exact DW.nilArr _ rfl | refine DWl.cons ?_ ?_ | exact DWl.nil | exact DW.same _ rfl | exact DW.ref _ _ _ rfl | exact DW.arr _ _ _ rfl | exact DW.sub _ _ _ _ rfl | exact DW.mo _ _ rfl | exact DW.nilLst _ | refine DW.aggl ?_ | refine DW.tupl ?_ | refine DW.clol ?_ ?_)
  all_goals try ((conv => whnf); with_reducible first | refine Round.mark ?_ | refine Tells.mark ?_ | refine Retold.mark ?_)
  all_goals try first | (show (_ : Bool) = _; simp_all; done) | (show (_ : Int) < _; simp at *; omega) | (show (_ : Int) ≤ _; simp at *; omega) | (show (_ : Nat) < _; simp at *; omega) | (show (_ : Nat) ≤ _; simp at *; omega)
  conv => whnf
  refine Tri.loop (roSt ks rows n lo m hi) (fun p => 0 < p.1 ∧ p.1 ≤ m ∧ 0 < p.2.1 ∧ m + p.2.1 ≤ n ∧ rotS m p.1 p.2.1 p.2.2 = rotS m (m - lo) (hi - m) f) (fun p => p.1 + p.2.1) (m - lo, hi - m, f) (by kernel_rfl) (Go.Dl.Weak.list [] [] (by kernel_rfl) ?_ ?_) ⟨by show 0 < m - lo; omega, by show m - lo ≤ m; omega, by show 0 < hi - m; omega, by show m + (hi - m) ≤ n; omega, rfl⟩ ?_
  iterate 2 · repeat' (first | exact rx_a (by omega) hm4 | exact rx_a (by omega) hh4 | exact DWl.eq rfl (chC_all _) | exact DWl.eq rfl (rwF_all _ _ _) | exact DW.same _ rfl | exact DW.ref _ _ _ rfl | exact DW.arr _ _ _ rfl | exact OW.cells rfl rfl (DWl.same rfl) | refine OW.cells rfl rfl ?_ | refine DWl.cons ?_ ?_ | exact DWl.nil | exact DW.nilArr _ rfl | exact DW.nilLst _ | refine DW.clol ?_ ?_ | refine DW.aggl ?_ | refine DW.tupl ?_ | refine DW.int ?_ | refine DW.bool ?_ | refine DW.str ?_ | refine DW.arrE rfl ?_ | ((conv => whnf); first | refine And.intro ?_ ?_ | trivial))
  intro ⟨i, j, g⟩ ⟨hi0, him, hj0, hjn, he⟩
  have hi0 : 0 < i := hi0
  have him : i ≤ m := him
  have hj0 : 0 < j := hj0
  have hjn : m + j ≤ n := hjn
  have he : rotS m i j g = rotS m (m - lo) (hi - m) f := he
  show dcode _ _ _ _ (roSt ks rows n lo m hi (i, j, g)) _
  repeat' (first | with_reducible rfl | ((conv => whnf); first | refine And.intro ?_ ?_ | (intro h; first | with_reducible exact tf_no h | with_reducible exact ft_no h | exact Bool.noConfusion h | with_reducible exact h | (have ht : true = true := h; clear ht h) | skip) | ((with_reducible refine SCall.mark ?_); first | refine SCall.at [0, 1, 2] (fun _ => stO ks rows n (swR (m - i) m j g)) (fun _ => .tup []) 0 (swp162_S hS (by omega) (by omega) g) (by kernel_rfl) ⟨OW.cells rfl rfl (DWl.eq rfl (rwF_all _ _ _)), OW.cells rfl rfl (DWl.cons (DW.arr _ _ _ rfl) DWl.nil), OW.cells rfl rfl (DWl.eq rfl (chC_all _)), trivial⟩ (DWl.cons (DW.arr _ _ _ rfl) (DWl.cons (DW.int (rx_a him hm4)) (DWl.cons (DW.same _ rfl) (DWl.cons (DW.same _ rfl) (DWl.cons (DW.clol DWl.nil (DWl.cons (DW.ref _ _ _ rfl) DWl.nil)) DWl.nil))))) (DW.tupl DWl.nil) ⟨OW.cells rfl rfl (DWl.eq rfl (rwF_all _ _ _)), OW.cells rfl rfl (DWl.cons (DW.arr _ _ _ rfl) DWl.nil), OW.cells rfl rfl (DWl.eq rfl (chC_all _)), trivial⟩ ?_ | refine SCall.at [0, 1, 2] (fun _ => stO ks rows n (swR (m - i) (m + j - i) i g)) (fun _ => .tup []) 0 (swp162_S hS (by omega) (by omega) g) (by kernel_rfl) ⟨OW.cells rfl rfl (DWl.eq rfl (rwF_all _ _ _)), OW.cells rfl rfl (DWl.cons (DW.arr _ _ _ rfl) DWl.nil), OW.cells rfl rfl (DWl.eq rfl (chC_all _)), trivial⟩ (DWl.cons (DW.arr _ _ _ rfl) (DWl.cons (DW.int (rx_a him hm4)) (DWl.cons (DW.int (rx_b him (by omega))) (DWl.cons (DW.same _ rfl) (DWl.cons (DW.clol DWl.nil (DWl.cons (DW.ref _ _ _ rfl) DWl.nil)) DWl.nil))))) (DW.tupl DWl.nil) ⟨OW.cells rfl rfl (DWl.eq rfl (rwF_all _ _ _)), OW.cells rfl rfl (DWl.cons (DW.arr _ _ _ rfl) DWl.nil), OW.cells rfl rfl (DWl.eq rfl (chC_all _)), trivial⟩ ?_ | refine SCall.at [0, 1, 2] (fun _ => stO ks rows n (swR (m - i) m i g)) (fun _ => .tup []) 0 (swp162_S hS (by omega) (rx_n h hjn) g) (by kernel_rfl) ⟨OW.cells rfl rfl (DWl.eq rfl (rwF_all _ _ _)), OW.cells rfl rfl (DWl.cons (DW.arr _ _ _ rfl) DWl.nil), OW.cells rfl rfl (DWl.eq rfl (chC_all _)), trivial⟩ (DWl.cons (DW.arr _ _ _ rfl) (DWl.cons (DW.int (rx_a him hm4)) (DWl.cons (DW.same _ rfl) (DWl.cons (DW.same _ rfl) (DWl.cons (DW.clol DWl.nil (DWl.cons (DW.ref _ _ _ rfl) DWl.nil)) DWl.nil))))) (DW.tupl DWl.nil) ⟨OW.cells rfl rfl (DWl.eq rfl (rwF_all _ _ _)), OW.cells rfl rfl (DWl.cons (DW.arr _ _ _ rfl) DWl.nil), OW.cells rfl rfl (DWl.eq rfl (chC_all _)), trivial⟩ ?_) | ((with_reducible refine ECall.mark ?_); first | refine ECall.only ?_ (fun h => nomatch h) | refine ECall.only ?_ ?_) | ((with_reducible refine Drawn.mark ?_); first | refine Drawn.quiet (by kernel_rfl) ?_) | refine dcell_ok rfl ?_ | refine AppC.new ?_))
  all_goals try ((conv => whnf); with_reducible refine Round.mark ?_)
  all_goals try first | ((with_reducible show Option.isSome (slElem _ _) = true); kernel_rfl) | ((with_reducible show slElem _ _ = some _); kernel_rfl) | ((with_reducible refine enters_mark ?_); kernel_rfl) | (with_reducible assumption) | ((with_reducible show List.all _ DV.one = true); rfl) | ((with_reducible show (_ : Nat) = _); rfl) | ((with_reducible show (_ == true) = true); simpa using h) | ((with_reducible show (_ : Nat) ≤ _); exact Nat.le_of_ble_eq_true rfl) | ((with_reducible show (_ : Int) ≤ _); first | omega | decide) | ((with_reducible show (_ : Int) < _); first | omega | decide) | ((with_reducible show (_ : Nat) < _); omega) | ((with_reducible show (_ : Nat) ≤ _); omega)
  · rename_i hne
    have hne : i ≠ j := bne_t hne
    have hgt : j < i := lt_int h
    refine Round.go (fun _ => (i - j, j, swR (m - i) m j g)) ⟨by show 0 < i - j; omega, by show i - j ≤ m; omega, hj0, hjn, (rot_gt hgt him hj0).trans he⟩ (by show i - j + j < i + j; omega) (Weak.list [] [] (by kernel_rfl) ?_ ?_)
    iterate 2 · repeat' (first | exact rx_a (m := i) (i := j) (by omega) (by omega) | exact DWl.eq rfl (chC_all _) | exact DWl.eq rfl (rwF_all _ _ _) | exact DW.same _ rfl | exact DW.ref _ _ _ rfl | exact DW.arr _ _ _ rfl | exact OW.cells rfl rfl (DWl.same rfl) | refine OW.cells rfl rfl ?_ | refine DWl.cons ?_ ?_ | exact DWl.nil | exact DW.nilArr _ rfl | exact DW.nilLst _ | refine DW.clol ?_ ?_ | refine DW.aggl ?_ | refine DW.tupl ?_ | refine DW.int ?_ | refine DW.bool ?_ | refine DW.str ?_ | refine DW.arrE rfl ?_ | ((conv => whnf); first | refine And.intro ?_ ?_ | trivial))
  · rename_i hne
    have hne : i ≠ j := bne_t hne
    have hgt : i < j := by
      have h2 : i ≤ j := ge_int h
      omega
    refine Round.go (fun _ => (i, j - i, swR (m - i) (m + j - i) i g)) ⟨hi0, him, by show 0 < j - i; omega, by show m + (j - i) ≤ n; omega, (rot_lt hgt him hi0).trans he⟩ (by show i + (j - i) < i + j; omega) (Weak.list [] [] (by kernel_rfl) ?_ ?_)
    iterate 2 · repeat' (first | exact rx_a (m := j) (i := i) (by omega) (by omega) | exact DWl.eq rfl (chC_all _) | exact DWl.eq rfl (rwF_all _ _ _) | exact DW.same _ rfl | exact DW.ref _ _ _ rfl | exact DW.arr _ _ _ rfl | exact OW.cells rfl rfl (DWl.same rfl) | refine OW.cells rfl rfl ?_ | refine DWl.cons ?_ ?_ | exact DWl.nil | exact DW.nilArr _ rfl | exact DW.nilLst _ | refine DW.clol ?_ ?_ | refine DW.aggl ?_ | refine DW.tupl ?_ | refine DW.int ?_ | refine DW.bool ?_ | refine DW.str ?_ | refine DW.arrE rfl ?_ | ((conv => whnf); first | refine And.intro ?_ ?_ | trivial))
  · have e1 : i = j := bne_f h
    have he2 : rwF rows n (swR (m - i) m i g) = rwF rows n (rotS m (m - lo) (hi - m) f) := by rw [rot_eq him hi0, ← he, e1]
    conv => whnf
    refine Retold.list [] [] (.tup []) (stO ks rows n (rotS m (m - lo) (hi - m) f)) 3 (by kernel_rfl) ?_ ?_ ⟨rfl, rfl⟩
    iterate 2 · repeat' (first | exact DWl.eq rfl (chC_all _) | exact DWl.eq he2 (rwF_all _ _ _) | exact DW.same _ rfl | exact DW.ref _ _ _ rfl | exact DW.arr _ _ _ rfl | exact OW.cells rfl rfl (DWl.same rfl) | refine OW.cells rfl rfl ?_ | refine DWl.cons ?_ ?_ | exact DWl.nil | exact DW.nilArr _ rfl | exact DW.nilLst _ | refine DW.clol ?_ ?_ | refine DW.aggl ?_ | refine DW.tupl ?_ | refine DW.int ?_ | refine DW.bool ?_ | refine DW.str ?_ | refine DW.arrE rfl ?_ | ((conv => whnf); first | refine And.intro ?_ ?_ | trivial))
end Go.Proofs.YtlchjjchgebfiaaGreatDoor
namespace Go.Proofs.YtlchjjchgebfiaaGreatDoor
open Go.RowKit Go.Dl Go.Dl.Stb
attribute [local irreducible] Tri SCall TSem ECall Drawn DFun QSem PSem PCall GCall MCall Round Go.Dl.Weak dloadE OW DWl Tells IntKind.wrap Retold ESem
theorem bis_ge {P : Nat → Bool} (k : Nat) {i j : Nat} (h : j ≤ i) : bis P k i j = i := by
  cases k with
  | zero => rfl
  | succ k => unfold bis; rw [if_neg (by omega)]
theorem bis_fuel {P : Nat → Bool} : ∀ (k k' i j : Nat), j - i ≤ k → j - i ≤ k' → bis P k i j = bis P k' i j
  | 0, k', i, j, h, _ => by rw [bis_ge 0 (by omega), bis_ge k' (by omega)]
  | k + 1, 0, i, j, _, h => by rw [bis_ge (k + 1) (by omega), bis_ge 0 (by omega)]
  | k + 1, k' + 1, i, j, h, h' => by
    unfold bis
    by_cases e : i < j
    · rw [if_pos e, if_pos e, bis_fuel k k' ((i + j) / 2 + 1) j (by omega) (by omega), bis_fuel k k' i ((i + j) / 2) (by omega) (by omega)]
    · rw [if_neg e, if_neg e]
theorem bis_t {P : Nat → Bool} {i j : Nat} (h : i < j) (hp : P ((i + j) / 2) = true) : bis P (j - i) i j = bis P (j - ((i + j) / 2 + 1)) ((i + j) / 2 + 1) j := by
  rw [bis_fuel (j - i) (j - i - 1 + 1) i j (by omega) (by omega)]
  show (if i < j then (if P ((i + j) / 2) = true then bis P (j - i - 1) ((i + j) / 2 + 1) j else bis P (j - i - 1) i ((i + j) / 2)) else i) = _
  rw [if_pos h, if_pos hp]
  exact bis_fuel _ _ _ _ (by omega) (Nat.le_refl _)
theorem bis_f {P : Nat → Bool} {i j : Nat} (h : i < j) (hp : P ((i + j) / 2) = false) : bis P (j - i) i j = bis P ((i + j) / 2 - i) i ((i + j) / 2) := by
  rw [bis_fuel (j - i) (j - i - 1 + 1) i j (by omega) (by omega)]
  show (if i < j then (if P ((i + j) / 2) = true then bis P (j - i - 1) ((i + j) / 2 + 1) j else bis P (j - i - 1) i ((i + j) / 2)) else i) = _
  rw [if_pos h, if_neg (by rw [hp]; exact Bool.false_ne_true)]
  exact bis_fuel _ _ _ _ (by omega) (Nat.le_refl _)
theorem hx_m {i j : Nat} (h : i + j ≤ 100000) : IntKind.i64.wrap ((IntKind.u64.wrap (IntKind.i64.wrap ((i : Int) + (j : Int)))).fdiv (2 ^ min (Int.toNat 1) IntKind.u64.bits)) = (((i + j) / 2 : Nat) : Int) := by
  have e1 : (2 : Int) ^ min (Int.toNat 1) IntKind.u64.bits = 2 := rfl
  have e2 : IntKind.u64.wrap (((i + j : Nat) : Nat) : Int) = ((i + j : Nat) : Int) := by rw [IntKind.wrap_u64]; omega
  rw [sx_w h, e2, e1, IntKind.wrap_i64, Int.fdiv_eq_ediv_of_nonneg _ (by decide)]; omega
theorem hx_get {rows : List (List ByteArray)} {n : Nat} {f : Nat → Nat} {i j : Nat} (h : (i + j) / 2 < n) (h2 : i + j ≤ 100000) : (rwF rows n f)[(IntKind.i64.wrap ((IntKind.u64.wrap (IntKind.i64.wrap ((i : Int) + (j : Int)))).fdiv (2 ^ min (Int.toNat 1) IntKind.u64.bits))).toNat * 1]? = some (strs (rows.getD (f ((i + j) / 2)) [])) := by
  rw [hx_m h2, Int.toNat_natCast, Nat.mul_one]; exact rwF_at h
theorem ia_get {rows : List (List ByteArray)} {n : Nat} {f : Nat → Nat} {i : Nat} (h : i < n) : (rwF rows n f)[((i : Nat) : Int).toNat * 1]? = some (strs (rows.getD (f i) [])) := by
  rw [Int.toNat_natCast, Nat.mul_one]; exact rwF_at h
theorem is_get {rows : List (List ByteArray)} {n : Nat} {f : Nat → Nat} {i : Nat} (h : i + 1 < n) (h2 : i + 1 ≤ 100000) : (rwF rows n f)[(IntKind.i64.wrap ((i : Int) + 1)).toNat * 1]? = some (strs (rows.getD (f (i + 1)) [])) := by
  rw [wsucc (n := i + 1) (Nat.lt_succ_self i) (by omega), Int.toNat_natCast, Nat.mul_one]; exact rwF_at h
theorem hx_0 {i j : Nat} (h2 : i + j ≤ 100000) : 0 ≤ IntKind.i64.wrap ((IntKind.u64.wrap (IntKind.i64.wrap ((i : Int) + (j : Int)))).fdiv (2 ^ min (Int.toNat 1) IntKind.u64.bits)) := by rw [hx_m h2]; omega
theorem hx_1 {i j n : Nat} (h : (i + j) / 2 < n) (h2 : i + j ≤ 100000) : IntKind.i64.wrap ((IntKind.u64.wrap (IntKind.i64.wrap ((i : Int) + (j : Int)))).fdiv (2 ^ min (Int.toNat 1) IntKind.u64.bits)) < (n : Int) := by rw [hx_m h2]; omega
theorem hx_s {i j : Nat} (h2 : i + j ≤ 100000) : IntKind.i64.wrap (IntKind.i64.wrap ((IntKind.u64.wrap (IntKind.i64.wrap ((i : Int) + (j : Int)))).fdiv (2 ^ min (Int.toNat 1) IntKind.u64.bits)) + 1) = (((i + j) / 2 + 1 : Nat) : Int) := by
  rw [hx_m h2]; exact wsucc (n := (i + j) / 2 + 1) (Nat.lt_succ_self _) (by omega)
theorem is_put {rows : List (List ByteArray)} {n : Nat} {g : Nat → Nat} {k : Nat} (h2 : k + 1 ≤ 100000) : setMany (setMany (rwF rows n g) (((k : Nat) : Int).toNat * 1) [strs (rows.getD (g (k + 1)) [])]) ((IntKind.i64.wrap ((k : Int) + 1)).toNat * 1) [strs (rows.getD (g k) [])] = rwF rows n (swf g k (k + 1)) := by
  rw [wsucc (n := k + 1) (Nat.lt_succ_self k) (by omega), Int.toNat_natCast, Int.toNat_natCast, Nat.mul_one, Nat.mul_one]; exact rwF_swap _ _
theorem is_0 {k : Nat} (h2 : k + 1 ≤ 100000) : 0 ≤ IntKind.i64.wrap ((k : Int) + 1) := by rw [wsucc (n := k + 1) (Nat.lt_succ_self k) (by omega)]; omega
theorem is_1 {k n : Nat} (h : k + 1 < n) (h2 : k + 1 ≤ 100000) : IntKind.i64.wrap ((k : Int) + 1) < (n : Int) := by rw [wsucc (n := k + 1) (Nat.lt_succ_self k) (by omega)]; omega
theorem is_d {rows : List (List ByteArray)} {n : Nat} {g : Nat → Nat} {k : Nat} (h : k < n) : ((k : Nat) : Int).toNat * 1 + 1 ≤ (rwF rows n g).length := by rw [rwF_len]; omega
theorem is_e {rows : List (List ByteArray)} {n : Nat} {g : Nat → Nat} {k : Nat} (h : k + 1 < n) (h2 : k + 1 ≤ 100000) (p : Nat) (d : DV) : (IntKind.i64.wrap ((k : Int) + 1)).toNat * 1 + 1 ≤ (setMany (rwF rows n g) p [d]).length := by
  show _ ≤ ((rwF rows n g).set p d).length
  rw [List.length_set, rwF_len, wsucc (n := k + 1) (Nat.lt_succ_self k) (by omega)]; omega
theorem bubU_z (k : Nat) (g : Nat → Nat) : bubU 0 k g = g := rfl
theorem bubU_s {i k : Nat} (h : k < i - 1) (g : Nat → Nat) : bubU (i - 1 - k) k g = bubU (i - 1 - (k + 1)) (k + 1) (swf g k (k + 1)) := by
  obtain ⟨c, hc⟩ : ∃ c, i - 1 - k = c + 1 := ⟨i - 1 - k - 1, by omega⟩
  rw [hc, show i - 1 - (k + 1) = c by omega]; rfl
theorem ip_m {i : Nat} (h : 1 ≤ i) (h2 : i ≤ 100000) : IntKind.i64.wrap ((i : Int) - 1) = ((i - 1 : Nat) : Int) := by rw [IntKind.wrap_i64]; omega
theorem ip_t {k i : Nat} (h : 1 ≤ i) (h2 : i ≤ 100000) (hk : k < i - 1) : ¬ decide ((k : Int) < IntKind.i64.wrap ((i : Int) - 1)) = false := by
  rw [ip_m h h2]; simp; omega
theorem ip_f {k i : Nat} (h : 1 ≤ i) (h2 : i ≤ 100000) (hk : ¬ k < i - 1) : ¬ decide ((k : Int) < IntKind.i64.wrap ((i : Int) - 1)) = true := by
  rw [ip_m h h2]; simp; omega
def s1St (ks : List Int) (rows : List (List ByteArray)) (n a m b : Nat) (f : Nat → Nat) (p : Nat × Nat) : St := ⟨⟨3, []⟩, tmOf [(0, .arr 0 n), (1, int1 a), (2, int1 m), (3, int1 b), (4, .clo (.func 63) [] [.ref 1 0]), (10, int1 p.1), (11, int1 p.2)], .of (stO ks rows n f) 3⟩
def s2St (ks : List Int) (rows : List (List ByteArray)) (n a m b i : Nat) (p : Nat × (Nat → Nat)) : St := ⟨⟨3, []⟩, tmOf [(0, .arr 0 n), (1, int1 a), (2, int1 m), (3, int1 b), (4, .clo (.func 63) [] [.ref 1 0]), (10, int1 i), (13, int1 p.1)], .of (stO ks rows n p.2) 3⟩
attribute [local irreducible] rwF chC bis bubU
set_option maxRecDepth 20000 in
set_option maxHeartbeats 4000000 in
theorem sym1_S {ks : List Int} {rows : List (List ByteArray)} {n : Nat} (hS : SrtOk ks rows n) {a m b : Nat} (_ham : a < m) (hmb : m < b) (hb : b ≤ n) {f : Nat → Nat} (hf : Cl n f) (h1 : m = a + 1) :
    SCall Tryz.prog 123 [.arr 0 n, int1 a, int1 m, int1 b, .clo (.func 63) [] [.ref 1 0]] (.of (stO ks rows n f) 3) fun r' s' => r' = .tup [] ∧ s' = .of (stO ks rows n (bubU (bis (fun h => ltK ks rows (f h) (f a)) (b - m) m b - 1 - a) a f)) 3 := by
  have hn := hS.n
  have hm4 : m ≤ 4096 := by omega
  have hb4 : b ≤ 4096 := by omega
  have hv : IntKind.i64.wrap ((m : Int) - (a : Int)) = 1 := by rw [rx_a (by omega) hm4]; omega
  refine SCall.retell (SCall.run Tryz.func123 rfl (Nat.le_of_ble_eq_true rfl) (by kernel_rfl) ?_)
  repeat' (first | with_reducible rfl | ((conv => whnf); first | refine And.intro ?_ ?_ | (intro h; first | with_reducible exact tf_no h | with_reducible exact ft_no h | exact Bool.noConfusion h | with_reducible exact h | (exfalso; rw [hv] at h; exact absurd h (by decide)) | (have ht : true = true := h; clear ht h) | skip) | ((with_reducible refine ECall.mark ?_); first | refine ECall.only ?_ (fun h => nomatch h) | refine ECall.only ?_ ?_) | ((with_reducible refine Drawn.mark ?_); first | refine Drawn.quiet (by kernel_rfl) ?_) | refine dcell_ok rfl ?_ | refine AppC.new ?_))
  all_goals first | (with_reducible refine enters_mark ?_; kernel_rfl) | (with_reducible refine boolT_mark ?_; kernel_rfl) | rfl | trivial | assumption | exact Nat.le_of_ble_eq_true rfl | (show entersB _ _ = true; kernel_rfl) | exact DW.same _ rfl | exact DW.ref _ _ _ rfl | exact DW.arr _ _ _ rfl | refine DW.int ?_ | refine dvb ?_ | refine dvi ?_ | exact OW.cells rfl rfl (DWl.same rfl) | exact Nat.zero_le _ | omega | skip
  all_goals repeat' (first | refine OW.cells rfl rfl ?_ | exact DW.nilArr _ rfl | refine DWl.cons ?_ ?_ | exact DWl.nil | exact DW.same _ rfl | exact DW.ref _ _ _ rfl | exact DW.arr _ _ _ rfl | exact DW.sub _ _ _ _ rfl | exact DW.mo _ _ rfl | exact DW.nilLst _ | refine DW.aggl ?_ | refine DW.tupl ?_ | refine DW.clol ?_ ?_)
  all_goals try ((conv => whnf); with_reducible first | refine Round.mark ?_ | refine Tells.mark ?_ | refine Retold.mark ?_)
  all_goals try first | (show (_ : Bool) = _; simp_all; done) | (show (_ : Int) < _; simp at *; omega) | (show (_ : Int) ≤ _; simp at *; omega) | (show (_ : Nat) < _; simp at *; omega) | (show (_ : Nat) ≤ _; simp at *; omega)
  conv => whnf
  refine Tri.loop (s1St ks rows n a m b f) (fun p => m ≤ p.1 ∧ p.1 ≤ p.2 ∧ p.2 ≤ b ∧ bis (fun h => ltK ks rows (f h) (f a)) (p.2 - p.1) p.1 p.2 = bis (fun h => ltK ks rows (f h) (f a)) (b - m) m b) (fun p => p.2 - p.1) (m, b) (by kernel_rfl) (Go.Dl.Weak.list [] [] (by kernel_rfl) ?_ ?_) ⟨Nat.le_refl _, by show m ≤ b; omega, Nat.le_refl _, rfl⟩ ?_
  iterate 2 · repeat' (first | exact DWl.eq rfl (chC_all _) | exact DWl.eq rfl (rwF_all _ _ _) | exact DW.same _ rfl | exact DW.ref _ _ _ rfl | exact DW.arr _ _ _ rfl | exact OW.cells rfl rfl (DWl.same rfl) | refine OW.cells rfl rfl ?_ | refine DWl.cons ?_ ?_ | exact DWl.nil | exact DW.nilArr _ rfl | exact DW.nilLst _ | refine DW.clol ?_ ?_ | refine DW.aggl ?_ | refine DW.tupl ?_ | refine DW.int ?_ | refine DW.bool ?_ | refine DW.str ?_ | refine DW.arrE rfl ?_ | ((conv => whnf); first | refine And.intro ?_ ?_ | trivial))
  intro ⟨i, j⟩ ⟨hi1, hi2, hi3, he⟩
  have hi1 : m ≤ i := hi1
  have hi2 : i ≤ j := hi2
  have hi3 : j ≤ b := hi3
  have he : bis (fun h => ltK ks rows (f h) (f a)) (j - i) i j = bis (fun h => ltK ks rows (f h) (f a)) (b - m) m b := he
  show dcode _ _ _ _ (s1St ks rows n a m b f (i, j)) _
  by_cases hij : i < j
  · have hnn : (i + j) / 2 < n := by omega
    have han : a < n := by omega
    have h5 : i + j ≤ 100000 := by omega
    repeat' (first | with_reducible rfl | ((conv => whnf); first | refine And.intro ?_ ?_ | (intro h; first | with_reducible exact tf_no h | with_reducible exact ft_no h | exact Bool.noConfusion h | with_reducible exact h | (exfalso; exact absurd (ge_int h) (Nat.not_le_of_lt hij)) | (have ht : true = true := h; clear ht h) | skip) | ((with_reducible refine Tri.mark ?_); first | (refine Tri.treeX [1, 2] (MX.mv 0 0 (MX.mv 0 1 (MX.mv 0 2 (MX.mv 0 3 (MX.mv 0 4 (MX.mv 0 5 (MX.mv 0 6 (MX.mv 0 7 (MX.mv 0 8 (MX.mv 2 9 (MX.mv 0 10 MX.done))))))))))) ?_ (by kernel_rfl) ?_; rfl)) | ((with_reducible refine ECall.mark ?_); first | refine ECall.only (fun _ => SCall.at [1, 2] (fun _ => atO ks) (fun _ => int1 (cmpK ks (rows.getD (f ((i + j) / 2)) []) (rows.getD (f a) []))) 0 (cmp_rows hS (hf _ hnn) (hf _ han)) (by kernel_rfl) ⟨OW.cells rfl rfl (DWl.cons (DW.arr _ _ _ rfl) DWl.nil), OW.cells rfl rfl (DWl.eq rfl (chC_all _)), trivial⟩ (DWl.cons (DW.same _ rfl) (DWl.cons (DW.same _ rfl) (DWl.cons (DW.ref _ _ _ rfl) DWl.nil))) (DW.same _ rfl) ⟨OW.cells rfl rfl (DWl.cons (DW.arr _ _ _ rfl) DWl.nil), OW.cells rfl rfl (DWl.eq rfl (chC_all _)), trivial⟩ ?_) (fun h => nomatch h) | refine ECall.only ?_ (fun h => nomatch h) | refine ECall.only ?_ ?_) | ((with_reducible refine Drawn.mark ?_); first | (refine Drawn.tree ?_; refine Tri.treeX [1, 2] (MX.mv 0 0 (MX.mv 0 1 (MX.mv 0 2 (MX.mv 0 3 (MX.mv 0 4 (MX.mv 0 5 (MX.mv 0 6 (MX.mv 0 7 (MX.mv 0 8 (MX.mv 2 9 (MX.mv 0 10 MX.done))))))))))) ?_ (by kernel_rfl) ?_; rfl) | refine Drawn.quiet (by kernel_rfl) ?_) | refine dcell_at _ (fun _ => hx_get hnn h5) ?_ | refine dcell_at _ (fun _ => ia_get han) ?_ | refine dcell_ok rfl ?_ | refine AppC.new ?_))
    all_goals try ((conv => whnf); with_reducible refine Round.mark ?_)
    all_goals try (first | (with_reducible exact hx_0 h5) | (with_reducible exact hx_1 hnn h5))
    all_goals try (first | (with_reducible (show isKnown _ _ = true)); kernel_rfl)
    all_goals try first | ((with_reducible show Option.isSome (slElem _ _) = true); kernel_rfl) | ((with_reducible show slElem _ _ = some _); kernel_rfl) | ((with_reducible refine enters_mark ?_); kernel_rfl) | (with_reducible assumption) | ((with_reducible show List.all _ DV.one = true); rfl) | ((with_reducible show (_ : Nat) = _); rfl) | ((with_reducible show (_ == true) = true); simpa using h) | ((with_reducible show (_ : Nat) ≤ _); exact Nat.le_of_ble_eq_true rfl) | ((with_reducible show (_ : Int) ≤ _); first | omega | decide) | ((with_reducible show (_ : Int) < _); first | omega | decide) | ((with_reducible show (_ : Nat) < _); omega) | ((with_reducible show (_ : Nat) ≤ _); omega)
    · have hc : ltK ks rows (f ((i + j) / 2)) (f a) = true := h
      refine Round.go (fun _ => ((i + j) / 2 + 1, j)) ⟨by show m ≤ (i + j) / 2 + 1; omega, by show (i + j) / 2 + 1 ≤ j; omega, hi3, (bis_t (P := fun h => ltK ks rows (f h) (f a)) hij hc).symm.trans he⟩ (by show j - ((i + j) / 2 + 1) < j - i; omega) (Weak.list [] [] (by kernel_rfl) ?_ ?_)
      iterate 2 · repeat' (first | exact hx_s h5 | exact DWl.eq rfl (chC_all _) | exact DWl.eq rfl (rwF_all _ _ _) | exact DW.same _ rfl | exact DW.ref _ _ _ rfl | exact DW.arr _ _ _ rfl | exact OW.cells rfl rfl (DWl.same rfl) | refine OW.cells rfl rfl ?_ | refine DWl.cons ?_ ?_ | exact DWl.nil | exact DW.nilArr _ rfl | exact DW.nilLst _ | refine DW.clol ?_ ?_ | refine DW.aggl ?_ | refine DW.tupl ?_ | refine DW.int ?_ | refine DW.bool ?_ | refine DW.str ?_ | refine DW.arrE rfl ?_ | ((conv => whnf); first | refine And.intro ?_ ?_ | trivial))
    · have hc : ltK ks rows (f ((i + j) / 2)) (f a) = false := h
      refine Round.go (fun _ => (i, (i + j) / 2)) ⟨hi1, by show i ≤ (i + j) / 2; omega, by show (i + j) / 2 ≤ b; omega, (bis_f (P := fun h => ltK ks rows (f h) (f a)) hij hc).symm.trans he⟩ (by show (i + j) / 2 - i < j - i; omega) (Weak.list [] [] (by kernel_rfl) ?_ ?_)
      iterate 2 · repeat' (first | exact hx_m h5 | exact DWl.eq rfl (chC_all _) | exact DWl.eq rfl (rwF_all _ _ _) | exact DW.same _ rfl | exact DW.ref _ _ _ rfl | exact DW.arr _ _ _ rfl | exact OW.cells rfl rfl (DWl.same rfl) | refine OW.cells rfl rfl ?_ | refine DWl.cons ?_ ?_ | exact DWl.nil | exact DW.nilArr _ rfl | exact DW.nilLst _ | refine DW.clol ?_ ?_ | refine DW.aggl ?_ | refine DW.tupl ?_ | refine DW.int ?_ | refine DW.bool ?_ | refine DW.str ?_ | refine DW.arrE rfl ?_ | ((conv => whnf); first | refine And.intro ?_ ?_ | trivial))
  · have hge : j ≤ i := Nat.le_of_not_lt hij
    have hbi : bis (fun h => ltK ks rows (f h) (f a)) (b - m) m b = i := by rw [← he]; exact bis_ge _ hge
    repeat' (first | with_reducible rfl | ((conv => whnf); first | refine And.intro ?_ ?_ | (intro h; first | with_reducible exact tf_no h | with_reducible exact ft_no h | exact Bool.noConfusion h | with_reducible exact h | (exfalso; exact hij (lt_int h)) | (have ht : true = true := h; clear ht h) | skip) | ((with_reducible refine ECall.mark ?_); first | refine ECall.only ?_ (fun h => nomatch h) | refine ECall.only ?_ ?_) | ((with_reducible refine Drawn.mark ?_); first | refine Drawn.quiet (by kernel_rfl) ?_) | refine dcell_ok rfl ?_ | refine AppC.new ?_))
    conv => whnf
    refine Tri.loop (s2St ks rows n a m b i) (fun p => p.1 ≤ i - 1 ∧ Cl n p.2 ∧ bubU (i - 1 - p.1) p.1 p.2 = bubU (i - 1 - a) a f) (fun p => i - 1 - p.1) (a, f) (by kernel_rfl) (Go.Dl.Weak.list [] [] (by kernel_rfl) ?_ ?_) ⟨by show a ≤ i - 1; omega, hf, rfl⟩ ?_
    iterate 2 · repeat' (first | exact DWl.eq rfl (chC_all _) | exact DWl.eq rfl (rwF_all _ _ _) | exact DW.same _ rfl | exact DW.ref _ _ _ rfl | exact DW.arr _ _ _ rfl | exact OW.cells rfl rfl (DWl.same rfl) | refine OW.cells rfl rfl ?_ | refine DWl.cons ?_ ?_ | exact DWl.nil | exact DW.nilArr _ rfl | exact DW.nilLst _ | refine DW.clol ?_ ?_ | refine DW.aggl ?_ | refine DW.tupl ?_ | refine DW.int ?_ | refine DW.bool ?_ | refine DW.str ?_ | refine DW.arrE rfl ?_ | ((conv => whnf); first | refine And.intro ?_ ?_ | trivial))
    intro ⟨k, g⟩ ⟨hk, hg, he2⟩
    have hk : k ≤ i - 1 := hk
    have hg : Cl n g := hg
    have he2 : bubU (i - 1 - k) k g = bubU (i - 1 - a) a f := he2
    have h1i : 1 ≤ i := by omega
    have hi5 : i ≤ 100000 := by omega
    show dcode _ _ _ _ (s2St ks rows n a m b i (k, g)) _
    by_cases hki : k < i - 1
    · have hk1 : k + 1 < n := by omega
      have hk0 : k < n := by omega
      have hk5 : k + 1 ≤ 100000 := by omega
      repeat' (first | with_reducible rfl | ((conv => whnf); first | refine And.intro ?_ ?_ | (intro h; first | with_reducible exact tf_no h | with_reducible exact ft_no h | exact Bool.noConfusion h | with_reducible exact h | (exfalso; exact ip_t h1i hi5 hki h) | (have ht : true = true := h; clear ht h) | skip) | ((with_reducible refine Tri.mark ?_); first | (refine Tri.treeX [0] (MX.mv 0 0 (MX.mv 0 1 (MX.mv 0 2 (MX.mv 0 3 (MX.mv 0 4 (MX.mv 0 5 (MX.mv 0 6 (MX.mv 0 7 (MX.mv 0 8 (MX.mv 0 10 (MX.mv 0 11 (MX.mv 0 12 (MX.two 1 9 (MX.mv 1 13 (MX.mv 0 14 (MX.mv 1 15 (MX.mv 1 16 (MX.mv 1 17 MX.done))))) 1 13 (MX.mv 1 9 (MX.mv 0 14 (MX.mv 1 15 (MX.mv 1 16 (MX.mv 1 17 MX.done)))))))))))))))))) ?_ (by kernel_rfl) ?_; rfl)) | ((with_reducible refine ECall.mark ?_); first | refine ECall.only ?_ (fun h => nomatch h) | refine ECall.only ?_ ?_) | ((with_reducible refine Drawn.mark ?_); first | (refine Drawn.tree ?_; refine Tri.treeX [0] (MX.mv 0 0 (MX.mv 0 1 (MX.mv 0 2 (MX.mv 0 3 (MX.mv 0 4 (MX.mv 0 5 (MX.mv 0 6 (MX.mv 0 7 (MX.mv 0 8 (MX.mv 0 10 (MX.mv 0 11 (MX.mv 0 12 (MX.two 1 9 (MX.mv 1 13 (MX.mv 0 14 (MX.mv 1 15 (MX.mv 1 16 (MX.mv 1 17 MX.done))))) 1 13 (MX.mv 1 9 (MX.mv 0 14 (MX.mv 1 15 (MX.mv 1 16 (MX.mv 1 17 MX.done)))))))))))))))))) ?_ (by kernel_rfl) ?_; rfl) | refine Drawn.quiet (by kernel_rfl) ?_) | refine dcell_at _ (fun _ => is_get hk1 hk5) ?_ | refine dcell_at _ (fun _ => ia_get hk0) ?_ | refine dcell_ok rfl ?_ | refine AppC.new ?_))
      all_goals try ((conv => whnf); with_reducible refine Round.mark ?_)
      all_goals try (first | ((with_reducible refine enters_mark ?_); kernel_rfl) | ((with_reducible show Option.all _ _ = true); rfl) | (with_reducible exact is_0 hk5) | (with_reducible exact is_1 hk1 hk5) | (with_reducible exact is_d hk0) | (with_reducible exact is_e hk1 hk5 _ _))
      all_goals try first | ((with_reducible show Option.isSome (slElem _ _) = true); kernel_rfl) | ((with_reducible show slElem _ _ = some _); kernel_rfl) | ((with_reducible refine enters_mark ?_); kernel_rfl) | (with_reducible assumption) | ((with_reducible show List.all _ DV.one = true); rfl) | ((with_reducible show (_ : Nat) = _); rfl) | ((with_reducible show (_ == true) = true); simpa using h) | ((with_reducible show (_ : Nat) ≤ _); exact Nat.le_of_ble_eq_true rfl) | ((with_reducible show (_ : Int) ≤ _); first | omega | decide) | ((with_reducible show (_ : Int) < _); first | omega | decide) | ((with_reducible show (_ : Nat) < _); omega) | ((with_reducible show (_ : Nat) ≤ _); omega)
      iterate 2
        · refine Round.go (fun _ => (k + 1, swf g k (k + 1))) ⟨by show k + 1 ≤ i - 1; omega, hg.swf hk0 hk1, (bubU_s hki g).symm.trans he2⟩ (by show i - 1 - (k + 1) < i - 1 - k; omega) (Weak.list [] [] (by kernel_rfl) ?_ ?_)
          iterate 2 · repeat' (first | exact wsucc (n := k + 1) (Nat.lt_succ_self k) (by omega) | exact DWl.eq rfl (chC_all _) | exact DWl.eq (is_put hk5) (rwF_all _ _ _) | exact DW.same _ rfl | exact DW.ref _ _ _ rfl | exact DW.arr _ _ _ rfl | exact OW.cells rfl rfl (DWl.same rfl) | refine OW.cells rfl rfl ?_ | refine DWl.cons ?_ ?_ | exact DWl.nil | exact DW.nilArr _ rfl | exact DW.nilLst _ | refine DW.clol ?_ ?_ | refine DW.aggl ?_ | refine DW.tupl ?_ | refine DW.int ?_ | refine DW.bool ?_ | refine DW.str ?_ | refine DW.arrE rfl ?_ | ((conv => whnf); first | refine And.intro ?_ ?_ | trivial))
    · have e9 : rwF rows n g = rwF rows n (bubU (bis (fun h => ltK ks rows (f h) (f a)) (b - m) m b - 1 - a) a f) := by rw [hbi, ← he2, show i - 1 - k = 0 by omega, bubU_z]
      repeat' (first | with_reducible rfl | ((conv => whnf); first | refine And.intro ?_ ?_ | (intro h; first | with_reducible exact tf_no h | with_reducible exact ft_no h | exact Bool.noConfusion h | with_reducible exact h | (exfalso; exact ip_f h1i hi5 hki h) | (have ht : true = true := h; clear ht h) | skip) | ((with_reducible refine ECall.mark ?_); first | refine ECall.only ?_ (fun h => nomatch h) | refine ECall.only ?_ ?_) | ((with_reducible refine Drawn.mark ?_); first | refine Drawn.quiet (by kernel_rfl) ?_) | refine dcell_ok rfl ?_ | refine AppC.new ?_))
      conv => whnf
      refine Retold.list [] [] (.tup []) (stO ks rows n (bubU (bis (fun h => ltK ks rows (f h) (f a)) (b - m) m b - 1 - a) a f)) 3 (by kernel_rfl) ?_ ?_ ⟨rfl, rfl⟩
      iterate 2 · repeat' (first | exact DWl.eq rfl (chC_all _) | exact DWl.eq e9 (rwF_all _ _ _) | exact DW.same _ rfl | exact DW.ref _ _ _ rfl | exact DW.arr _ _ _ rfl | exact OW.cells rfl rfl (DWl.same rfl) | refine OW.cells rfl rfl ?_ | refine DWl.cons ?_ ?_ | exact DWl.nil | exact DW.nilArr _ rfl | exact DW.nilLst _ | refine DW.clol ?_ ?_ | refine DW.aggl ?_ | refine DW.tupl ?_ | refine DW.int ?_ | refine DW.bool ?_ | refine DW.str ?_ | refine DW.arrE rfl ?_ | ((conv => whnf); first | refine And.intro ?_ ?_ | trivial))
end Go.Proofs.YtlchjjchgebfiaaGreatDoor
namespace Go.Proofs.YtlchjjchgebfiaaGreatDoor
open Go.RowKit Go.Dl Go.Dl.Stb
attribute [local irreducible] Tri SCall TSem ECall Drawn DFun QSem PSem PCall GCall MCall Round Go.Dl.Weak dloadE OW DWl Tells IntKind.wrap Retold ESem
theorem jx_get {rows : List (List ByteArray)} {n : Nat} {f : Nat → Nat} {i : Nat} (h : i < n) (h2 : i ≤ 4096) : (rwF rows n f)[(IntKind.i64.wrap (((i + 1 : Nat) : Int) - 1)).toNat * 1]? = some (strs (rows.getD (f i) [])) := by
  rw [ix_0 h2]; exact rwF_at h
theorem jx_put {rows : List (List ByteArray)} {n : Nat} {g : Nat → Nat} {k : Nat} (h2 : k ≤ 4096) : setMany (setMany (rwF rows n g) (((k + 1 : Nat) : Int).toNat * 1) [strs (rows.getD (g k) [])]) ((IntKind.i64.wrap (((k + 1 : Nat) : Int) - 1)).toNat * 1) [strs (rows.getD (g (k + 1)) [])] = rwF rows n (swf g (k + 1) k) := by
  rw [ix_1, ix_0 h2]; exact rwF_swap _ _
theorem bubD_z (k : Nat) (g : Nat → Nat) : bubD 0 k g = g := rfl
theorem bubD_s {r k : Nat} (h : r < k + 1) (g : Nat → Nat) : bubD (k + 1 - r) (k + 1) g = bubD (k - r) k (swf g (k + 1) k) := by
  rw [show k + 1 - r = (k - r) + 1 by omega]; rfl
theorem b1_t {x : Nat} (h : x ≠ 1) : ¬ (((x : Nat) : Int) == 1) = true := by
  intro e; have := eq_of_beq e; omega
theorem b1_f {x : Nat} (h : x = 1) : ¬ (((x : Nat) : Int) == 1) = false := by
  subst h; decide
def s3St (ks : List Int) (rows : List (List ByteArray)) (n a m b : Nat) (f : Nat → Nat) (p : Nat × Nat) : St := ⟨⟨3, []⟩, tmOf [(0, .arr 0 n), (1, int1 a), (2, int1 m), (3, int1 b), (4, .clo (.func 63) [] [.ref 1 0]), (14, int1 p.1), (15, int1 p.2)], .of (stO ks rows n f) 3⟩
def s4St (ks : List Int) (rows : List (List ByteArray)) (n a m b i : Nat) (p : Nat × (Nat → Nat)) : St := ⟨⟨3, []⟩, tmOf [(0, .arr 0 n), (1, int1 a), (2, int1 m), (3, int1 b), (4, .clo (.func 63) [] [.ref 1 0]), (14, int1 i), (17, int1 p.1)], .of (stO ks rows n p.2) 3⟩
attribute [local irreducible] rwF chC bis bubD
set_option maxRecDepth 20000 in
set_option maxHeartbeats 4000000 in
theorem sym2_S {ks : List Int} {rows : List (List ByteArray)} {n : Nat} (hS : SrtOk ks rows n) {a m b : Nat} (ham : a < m) (hmb : m < b) (hb : b ≤ n) {f : Nat → Nat} (hf : Cl n f) (h1 : m - a ≠ 1) (h2 : b - m = 1) :
    SCall Tryz.prog 123 [.arr 0 n, int1 a, int1 m, int1 b, .clo (.func 63) [] [.ref 1 0]] (.of (stO ks rows n f) 3) fun r' s' => r' = .tup [] ∧ s' = .of (stO ks rows n (bubD (m - bis (fun h => !ltK ks rows (f m) (f h)) (m - a) a m) m f)) 3 := by
  have hn := hS.n
  have hm4 : m ≤ 4096 := by omega
  have hb4 : b ≤ 4096 := by omega
  have hv : IntKind.i64.wrap ((m : Int) - (a : Int)) = ((m - a : Nat) : Int) := rx_a (by omega) hm4
  have hv2 : IntKind.i64.wrap ((b : Int) - (m : Int)) = ((b - m : Nat) : Int) := rx_a (by omega) hb4
  refine SCall.retell (SCall.run Tryz.func123 rfl (Nat.le_of_ble_eq_true rfl) (by kernel_rfl) ?_)
  repeat' (first | with_reducible rfl | ((conv => whnf); first | refine And.intro ?_ ?_ | (intro h; first | with_reducible exact tf_no h | with_reducible exact ft_no h | exact Bool.noConfusion h | with_reducible exact h | (exfalso; rw [hv] at h; exact b1_t h1 h) | (exfalso; rw [hv2] at h; exact b1_f h2 h) | (have ht : true = true := h; clear ht h) | skip) | ((with_reducible refine ECall.mark ?_); first | refine ECall.only ?_ (fun h => nomatch h) | refine ECall.only ?_ ?_) | ((with_reducible refine Drawn.mark ?_); first | refine Drawn.quiet (by kernel_rfl) ?_) | refine dcell_ok rfl ?_ | refine AppC.new ?_))
  all_goals first | (with_reducible refine enters_mark ?_; kernel_rfl) | (with_reducible refine boolT_mark ?_; kernel_rfl) | rfl | trivial | assumption | exact Nat.le_of_ble_eq_true rfl | (show entersB _ _ = true; kernel_rfl) | exact DW.same _ rfl | exact DW.ref _ _ _ rfl | exact DW.arr _ _ _ rfl | refine DW.int ?_ | refine dvb ?_ | refine dvi ?_ | exact OW.cells rfl rfl (DWl.same rfl) | exact Nat.zero_le _ | omega | skip
  all_goals repeat' (first | refine OW.cells rfl rfl ?_ | exact DW.nilArr _ rfl | refine DWl.cons ?_ ?_ | exact DWl.nil | exact DW.same _ rfl | exact DW.ref _ _ _ rfl | exact DW.arr _ _ _ rfl | exact DW.sub _ _ _ _ rfl | exact DW.mo _ _ rfl | exact DW.nilLst _ | refine DW.aggl ?_ | refine DW.tupl ?_ | refine DW.clol ?_ ?_)
  all_goals try ((conv => whnf); with_reducible first | refine Round.mark ?_ | refine Tells.mark ?_ | refine Retold.mark ?_)
  all_goals try first | (show (_ : Bool) = _; simp_all; done) | (show (_ : Int) < _; simp at *; omega) | (show (_ : Int) ≤ _; simp at *; omega) | (show (_ : Nat) < _; simp at *; omega) | (show (_ : Nat) ≤ _; simp at *; omega)
  conv => whnf
  refine Tri.loop (s3St ks rows n a m b f) (fun p => a ≤ p.1 ∧ p.1 ≤ p.2 ∧ p.2 ≤ m ∧ bis (fun h => !ltK ks rows (f m) (f h)) (p.2 - p.1) p.1 p.2 = bis (fun h => !ltK ks rows (f m) (f h)) (m - a) a m) (fun p => p.2 - p.1) (a, m) (by kernel_rfl) (Go.Dl.Weak.list [] [] (by kernel_rfl) ?_ ?_) ⟨Nat.le_refl _, by show a ≤ m; omega, Nat.le_refl _, rfl⟩ ?_
  iterate 2 · repeat' (first | exact DWl.eq rfl (chC_all _) | exact DWl.eq rfl (rwF_all _ _ _) | exact DW.same _ rfl | exact DW.ref _ _ _ rfl | exact DW.arr _ _ _ rfl | exact OW.cells rfl rfl (DWl.same rfl) | refine OW.cells rfl rfl ?_ | refine DWl.cons ?_ ?_ | exact DWl.nil | exact DW.nilArr _ rfl | exact DW.nilLst _ | refine DW.clol ?_ ?_ | refine DW.aggl ?_ | refine DW.tupl ?_ | refine DW.int ?_ | refine DW.bool ?_ | refine DW.str ?_ | refine DW.arrE rfl ?_ | ((conv => whnf); first | refine And.intro ?_ ?_ | trivial))
  intro ⟨i, j⟩ ⟨hi1, hi2, hi3, he⟩
  have hi1 : a ≤ i := hi1
  have hi2 : i ≤ j := hi2
  have hi3 : j ≤ m := hi3
  have he : bis (fun h => !ltK ks rows (f m) (f h)) (j - i) i j = bis (fun h => !ltK ks rows (f m) (f h)) (m - a) a m := he
  show dcode _ _ _ _ (s3St ks rows n a m b f (i, j)) _
  by_cases hij : i < j
  · have hnn : (i + j) / 2 < n := by omega
    have han : m < n := by omega
    have h5 : i + j ≤ 100000 := by omega
    repeat' (first | with_reducible rfl | ((conv => whnf); first | refine And.intro ?_ ?_ | (intro h; first | with_reducible exact tf_no h | with_reducible exact ft_no h | exact Bool.noConfusion h | with_reducible exact h | (exfalso; exact absurd (ge_int h) (Nat.not_le_of_lt hij)) | (have ht : true = true := h; clear ht h) | skip) | ((with_reducible refine Tri.mark ?_); first | (refine Tri.treeX [1, 2] (MX.mv 0 0 (MX.mv 0 1 (MX.mv 0 2 (MX.mv 0 3 (MX.mv 0 4 (MX.mv 0 5 (MX.mv 0 6 (MX.mv 0 7 (MX.mv 0 8 (MX.mv 2 9 (MX.mv 0 10 (MX.mv 0 11 MX.done)))))))))))) ?_ (by kernel_rfl) ?_; rfl)) | ((with_reducible refine ECall.mark ?_); first | refine ECall.only (fun _ => SCall.at [1, 2] (fun _ => atO ks) (fun _ => int1 (cmpK ks (rows.getD (f m) []) (rows.getD (f ((i + j) / 2)) []))) 0 (cmp_rows hS (hf _ han) (hf _ hnn)) (by kernel_rfl) ⟨OW.cells rfl rfl (DWl.cons (DW.arr _ _ _ rfl) DWl.nil), OW.cells rfl rfl (DWl.eq rfl (chC_all _)), trivial⟩ (DWl.cons (DW.same _ rfl) (DWl.cons (DW.same _ rfl) (DWl.cons (DW.ref _ _ _ rfl) DWl.nil))) (DW.same _ rfl) ⟨OW.cells rfl rfl (DWl.cons (DW.arr _ _ _ rfl) DWl.nil), OW.cells rfl rfl (DWl.eq rfl (chC_all _)), trivial⟩ ?_) (fun h => nomatch h) | refine ECall.only ?_ (fun h => nomatch h) | refine ECall.only ?_ ?_) | ((with_reducible refine Drawn.mark ?_); first | (refine Drawn.tree ?_; refine Tri.treeX [1, 2] (MX.mv 0 0 (MX.mv 0 1 (MX.mv 0 2 (MX.mv 0 3 (MX.mv 0 4 (MX.mv 0 5 (MX.mv 0 6 (MX.mv 0 7 (MX.mv 0 8 (MX.mv 2 9 (MX.mv 0 10 (MX.mv 0 11 MX.done)))))))))))) ?_ (by kernel_rfl) ?_; rfl) | refine Drawn.quiet (by kernel_rfl) ?_) | refine dcell_at _ (fun _ => hx_get hnn h5) ?_ | refine dcell_at _ (fun _ => ia_get han) ?_ | refine dcell_ok rfl ?_ | refine AppC.new ?_))
    all_goals try ((conv => whnf); with_reducible refine Round.mark ?_)
    all_goals try (first | (with_reducible exact hx_0 h5) | (with_reducible exact hx_1 hnn h5))
    all_goals try (first | (with_reducible (show isKnown _ _ = true)); kernel_rfl)
    all_goals try first | ((with_reducible show Option.isSome (slElem _ _) = true); kernel_rfl) | ((with_reducible show slElem _ _ = some _); kernel_rfl) | ((with_reducible refine enters_mark ?_); kernel_rfl) | (with_reducible assumption) | ((with_reducible show List.all _ DV.one = true); rfl) | ((with_reducible show (_ : Nat) = _); rfl) | ((with_reducible show (_ == true) = true); simpa using h) | ((with_reducible show (_ : Nat) ≤ _); exact Nat.le_of_ble_eq_true rfl) | ((with_reducible show (_ : Int) ≤ _); first | omega | decide) | ((with_reducible show (_ : Int) < _); first | omega | decide) | ((with_reducible show (_ : Nat) < _); omega) | ((with_reducible show (_ : Nat) ≤ _); omega)
    · have hc : (!ltK ks rows (f m) (f ((i + j) / 2))) = true := h
      refine Round.go (fun _ => ((i + j) / 2 + 1, j)) ⟨by show a ≤ (i + j) / 2 + 1; omega, by show (i + j) / 2 + 1 ≤ j; omega, hi3, (bis_t (P := fun h => !ltK ks rows (f m) (f h)) hij hc).symm.trans he⟩ (by show j - ((i + j) / 2 + 1) < j - i; omega) (Weak.list [] [] (by kernel_rfl) ?_ ?_)
      iterate 2 · repeat' (first | exact hx_s h5 | exact DWl.eq rfl (chC_all _) | exact DWl.eq rfl (rwF_all _ _ _) | exact DW.same _ rfl | exact DW.ref _ _ _ rfl | exact DW.arr _ _ _ rfl | exact OW.cells rfl rfl (DWl.same rfl) | refine OW.cells rfl rfl ?_ | refine DWl.cons ?_ ?_ | exact DWl.nil | exact DW.nilArr _ rfl | exact DW.nilLst _ | refine DW.clol ?_ ?_ | refine DW.aggl ?_ | refine DW.tupl ?_ | refine DW.int ?_ | refine DW.bool ?_ | refine DW.str ?_ | refine DW.arrE rfl ?_ | ((conv => whnf); first | refine And.intro ?_ ?_ | trivial))
    · have hc : (!ltK ks rows (f m) (f ((i + j) / 2))) = false := h
      refine Round.go (fun _ => (i, (i + j) / 2)) ⟨hi1, by show i ≤ (i + j) / 2; omega, by show (i + j) / 2 ≤ m; omega, (bis_f (P := fun h => !ltK ks rows (f m) (f h)) hij hc).symm.trans he⟩ (by show (i + j) / 2 - i < j - i; omega) (Weak.list [] [] (by kernel_rfl) ?_ ?_)
      iterate 2 · repeat' (first | exact hx_m h5 | exact DWl.eq rfl (chC_all _) | exact DWl.eq rfl (rwF_all _ _ _) | exact DW.same _ rfl | exact DW.ref _ _ _ rfl | exact DW.arr _ _ _ rfl | exact OW.cells rfl rfl (DWl.same rfl) | refine OW.cells rfl rfl ?_ | refine DWl.cons ?_ ?_ | exact DWl.nil | exact DW.nilArr _ rfl | exact DW.nilLst _ | refine DW.clol ?_ ?_ | refine DW.aggl ?_ | refine DW.tupl ?_ | refine DW.int ?_ | refine DW.bool ?_ | refine DW.str ?_ | refine DW.arrE rfl ?_ | ((conv => whnf); first | refine And.intro ?_ ?_ | trivial))
  · have hge : j ≤ i := Nat.le_of_not_lt hij
    have hbi : bis (fun h => !ltK ks rows (f m) (f h)) (m - a) a m = i := by rw [← he]; exact bis_ge _ hge
    repeat' (first | with_reducible rfl | ((conv => whnf); first | refine And.intro ?_ ?_ | (intro h; first | with_reducible exact tf_no h | with_reducible exact ft_no h | exact Bool.noConfusion h | with_reducible exact h | (exfalso; exact hij (lt_int h)) | (have ht : true = true := h; clear ht h) | skip) | ((with_reducible refine ECall.mark ?_); first | refine ECall.only ?_ (fun h => nomatch h) | refine ECall.only ?_ ?_) | ((with_reducible refine Drawn.mark ?_); first | refine Drawn.quiet (by kernel_rfl) ?_) | refine dcell_ok rfl ?_ | refine AppC.new ?_))
    conv => whnf
    refine Tri.loop (s4St ks rows n a m b i) (fun p => i ≤ p.1 ∧ p.1 ≤ m ∧ Cl n p.2 ∧ bubD (p.1 - i) p.1 p.2 = bubD (m - i) m f) (fun p => p.1) (m, f) (by kernel_rfl) (Go.Dl.Weak.list [] [] (by kernel_rfl) ?_ ?_) ⟨by show i ≤ m; omega, Nat.le_refl _, hf, rfl⟩ ?_
    iterate 2 · repeat' (first | exact DWl.eq rfl (chC_all _) | exact DWl.eq rfl (rwF_all _ _ _) | exact DW.same _ rfl | exact DW.ref _ _ _ rfl | exact DW.arr _ _ _ rfl | exact OW.cells rfl rfl (DWl.same rfl) | refine OW.cells rfl rfl ?_ | refine DWl.cons ?_ ?_ | exact DWl.nil | exact DW.nilArr _ rfl | exact DW.nilLst _ | refine DW.clol ?_ ?_ | refine DW.aggl ?_ | refine DW.tupl ?_ | refine DW.int ?_ | refine DW.bool ?_ | refine DW.str ?_ | refine DW.arrE rfl ?_ | ((conv => whnf); first | refine And.intro ?_ ?_ | trivial))
    intro ⟨k, g⟩ ⟨hk, hkm, hg, he2⟩
    have hk : i ≤ k := hk
    have hkm : k ≤ m := hkm
    have hg : Cl n g := hg
    have he2 : bubD (k - i) k g = bubD (m - i) m f := he2
    by_cases hki : i < k
    · obtain ⟨k, rfl⟩ : ∃ c, k = c + 1 := ⟨k - 1, by omega⟩
      have hk1 : k + 1 < n := by omega
      have hk0 : k < n := by omega
      have hk4 : k ≤ 4096 := by omega
      show dcode _ _ _ _ (s4St ks rows n a m b i (k + 1, g)) _
      repeat' (first | with_reducible rfl | ((conv => whnf); first | refine And.intro ?_ ?_ | (intro h; first | with_reducible exact tf_no h | with_reducible exact ft_no h | exact Bool.noConfusion h | with_reducible exact h | (exfalso; exact absurd (ge_int h) (Nat.not_le_of_lt hki)) | (have ht : true = true := h; clear ht h) | skip) | ((with_reducible refine Tri.mark ?_); first | (refine Tri.treeX [0] (MX.mv 0 0 (MX.mv 0 1 (MX.mv 0 2 (MX.mv 0 3 (MX.mv 0 4 (MX.mv 0 5 (MX.mv 0 6 (MX.mv 0 7 (MX.mv 0 8 (MX.mv 0 10 (MX.mv 0 11 (MX.mv 0 12 (MX.two 1 9 (MX.mv 1 13 (MX.mv 0 14 (MX.mv 1 15 (MX.mv 1 16 (MX.mv 1 17 MX.done))))) 1 13 (MX.mv 1 9 (MX.mv 0 14 (MX.mv 1 15 (MX.mv 1 16 (MX.mv 1 17 MX.done)))))))))))))))))) ?_ (by kernel_rfl) ?_; rfl)) | ((with_reducible refine ECall.mark ?_); first | refine ECall.only ?_ (fun h => nomatch h) | refine ECall.only ?_ ?_) | ((with_reducible refine Drawn.mark ?_); first | (refine Drawn.tree ?_; refine Tri.treeX [0] (MX.mv 0 0 (MX.mv 0 1 (MX.mv 0 2 (MX.mv 0 3 (MX.mv 0 4 (MX.mv 0 5 (MX.mv 0 6 (MX.mv 0 7 (MX.mv 0 8 (MX.mv 0 10 (MX.mv 0 11 (MX.mv 0 12 (MX.two 1 9 (MX.mv 1 13 (MX.mv 0 14 (MX.mv 1 15 (MX.mv 1 16 (MX.mv 1 17 MX.done))))) 1 13 (MX.mv 1 9 (MX.mv 0 14 (MX.mv 1 15 (MX.mv 1 16 (MX.mv 1 17 MX.done)))))))))))))))))) ?_ (by kernel_rfl) ?_; rfl) | refine Drawn.quiet (by kernel_rfl) ?_) | refine dcell_at _ (fun _ => jx_get hk0 hk4) ?_ | refine dcell_at _ (fun _ => ia_get hk1) ?_ | refine dcell_ok rfl ?_ | refine AppC.new ?_))
      all_goals try ((conv => whnf); with_reducible refine Round.mark ?_)
      all_goals try (first | ((with_reducible refine enters_mark ?_); kernel_rfl) | ((with_reducible show Option.all _ _ = true); rfl) | (with_reducible exact ix_a hk1 hn) | (with_reducible exact ix_b hk1 hn) | (with_reducible exact ix_d rows g hk1) | (with_reducible exact ix_e rows g hk1 hn _ _))
      all_goals try first | ((with_reducible show Option.isSome (slElem _ _) = true); kernel_rfl) | ((with_reducible show slElem _ _ = some _); kernel_rfl) | ((with_reducible refine enters_mark ?_); kernel_rfl) | (with_reducible assumption) | ((with_reducible show List.all _ DV.one = true); rfl) | ((with_reducible show (_ : Nat) = _); rfl) | ((with_reducible show (_ == true) = true); simpa using h) | ((with_reducible show (_ : Nat) ≤ _); exact Nat.le_of_ble_eq_true rfl) | ((with_reducible show (_ : Int) ≤ _); first | omega | decide) | ((with_reducible show (_ : Int) < _); first | omega | decide) | ((with_reducible show (_ : Nat) < _); omega) | ((with_reducible show (_ : Nat) ≤ _); omega)
      iterate 2
        · refine Round.go (fun _ => (k, swf g (k + 1) k)) ⟨by show i ≤ k; omega, by show k ≤ m; omega, hg.swf hk1 hk0, (bubD_s hki g).symm.trans he2⟩ (Nat.lt_succ_self _) (Weak.list [] [] (by kernel_rfl) ?_ ?_)
          iterate 2 · repeat' (first | exact ix_w hk4 | exact DWl.eq rfl (chC_all _) | exact DWl.eq (jx_put hk4) (rwF_all _ _ _) | exact DW.same _ rfl | exact DW.ref _ _ _ rfl | exact DW.arr _ _ _ rfl | exact OW.cells rfl rfl (DWl.same rfl) | refine OW.cells rfl rfl ?_ | refine DWl.cons ?_ ?_ | exact DWl.nil | exact DW.nilArr _ rfl | exact DW.nilLst _ | refine DW.clol ?_ ?_ | refine DW.aggl ?_ | refine DW.tupl ?_ | refine DW.int ?_ | refine DW.bool ?_ | refine DW.str ?_ | refine DW.arrE rfl ?_ | ((conv => whnf); first | refine And.intro ?_ ?_ | trivial))
    · have e9 : rwF rows n g = rwF rows n (bubD (m - bis (fun h => !ltK ks rows (f m) (f h)) (m - a) a m) m f) := by rw [hbi, ← he2, show k - i = 0 by omega, bubD_z]
      show dcode _ _ _ _ (s4St ks rows n a m b i (k, g)) _
      repeat' (first | with_reducible rfl | ((conv => whnf); first | refine And.intro ?_ ?_ | (intro h; first | with_reducible exact tf_no h | with_reducible exact ft_no h | exact Bool.noConfusion h | with_reducible exact h | (exfalso; exact hki (lt_int h)) | (have ht : true = true := h; clear ht h) | skip) | ((with_reducible refine ECall.mark ?_); first | refine ECall.only ?_ (fun h => nomatch h) | refine ECall.only ?_ ?_) | ((with_reducible refine Drawn.mark ?_); first | refine Drawn.quiet (by kernel_rfl) ?_) | refine dcell_ok rfl ?_ | refine AppC.new ?_))
      conv => whnf
      refine Retold.list [] [] (.tup []) (stO ks rows n (bubD (m - bis (fun h => !ltK ks rows (f m) (f h)) (m - a) a m) m f)) 3 (by kernel_rfl) ?_ ?_ ⟨rfl, rfl⟩
      iterate 2 · repeat' (first | exact DWl.eq rfl (chC_all _) | exact DWl.eq e9 (rwF_all _ _ _) | exact DW.same _ rfl | exact DW.ref _ _ _ rfl | exact DW.arr _ _ _ rfl | exact OW.cells rfl rfl (DWl.same rfl) | refine OW.cells rfl rfl ?_ | refine DWl.cons ?_ ?_ | exact DWl.nil | exact DW.nilArr _ rfl | exact DW.nilLst _ | refine DW.clol ?_ ?_ | refine DW.aggl ?_ | refine DW.tupl ?_ | refine DW.int ?_ | refine DW.bool ?_ | refine DW.str ?_ | refine DW.arrE rfl ?_ | ((conv => whnf); first | refine And.intro ?_ ?_ | trivial))
end Go.Proofs.YtlchjjchgebfiaaGreatDoor
namespace Go.Proofs.YtlchjjchgebfiaaGreatDoor
open Go.RowKit Go.Dl Go.Dl.Stb
attribute [local irreducible] Tri SCall TSem ECall Drawn DFun QSem PSem PCall GCall MCall Round Go.Dl.Weak dloadE OW DWl Tells IntKind.wrap Retold ESem
theorem bis_bd {P : Nat → Bool} : ∀ (k i j : Nat), i ≤ j → i ≤ bis P k i j ∧ bis P k i j ≤ j
  | 0, i, j, h => ⟨Nat.le_refl _, h⟩
  | k + 1, i, j, h => by
    unfold bis
    split
    · split
      · have := bis_bd (P := P) k ((i + j) / 2 + 1) j (by omega); omega
      · have := bis_bd (P := P) k i ((i + j) / 2) (by omega); omega
    · exact ⟨Nat.le_refl _, h⟩
theorem rotS_cl {n m i j : Nat} {f : Nat → Nat} (h : Cl n f) (hm : m + j ≤ n) (hi : i ≤ m) : Cl n (rotS m i j f) := fun x hx => by
  unfold rotS
  split
  · exact h _ (by omega)
  · split
    · exact h _ (by omega)
    · exact h x hx
theorem bubU_cl {n c k : Nat} {f : Nat → Nat} (h : Cl n f) (hk : k + c < n) : Cl n (bubU c k f) := fun x hx => by
  rw [bubU_at]
  split
  · exact h _ (by omega)
  · split
    · exact h _ (by omega)
    · exact h x hx
theorem bubD_cl {n c k : Nat} {f : Nat → Nat} (h : Cl n f) (hc : c ≤ k) (hk : k < n) : Cl n (bubD c k f) := fun x hx => by
  rw [bubD_at c k f x hc]
  split
  · exact h _ hk
  · split
    · exact h _ (by omega)
    · exact h x hx
theorem stS_bd {lt : Nat → Nat → Bool} {a m b : Nat} {f : Nat → Nat} (h1 : a < m) (h2 : m < b) : (if (a + b) / 2 < m then (a + b) / 2 + m - b else a) ≤ stS lt a m b f ∧ stS lt a m b f ≤ (if (a + b) / 2 < m then (a + b) / 2 else m) :=
  bis_bd _ _ _ (by split <;> omega)
theorem stS_b2 {lt : Nat → Nat → Bool} {a m b : Nat} {f : Nat → Nat} (h1 : a < m) (h2 : m < b) : stS lt a m b f ≤ m ∧ (a + b) / 2 + m ≤ stS lt a m b f + b ∧ stS lt a m b f ≤ (a + b) / 2 := by
  have h := stS_bd (lt := lt) (f := f) h1 h2
  by_cases e : (a + b) / 2 < m
  · rw [if_pos e, if_pos e] at h; omega
  · rw [if_neg e, if_neg e] at h; omega
theorem symR_is {lt : Nat → Nat → Bool} {a m b : Nat} {f : Nat → Nat} (_h1 : a < m) (h2 : m < b) : symR lt a m b f = if stS lt a m b f < m ∧ m < (a + b) / 2 + m - stS lt a m b f then rotS m (m - stS lt a m b f) ((a + b) / 2 + m - stS lt a m b f - m) f else f := by
  unfold symR
  split
  · rename_i c
    exact rotL_is _ _ _ f (by omega) (by omega) (by omega) (by omega)
  · rfl
theorem symR_cl {n : Nat} {lt : Nat → Nat → Bool} {a m b : Nat} {f : Nat → Nat} (h1 : a < m) (h2 : m < b) (hb : b ≤ n) (h : Cl n f) : Cl n (symR lt a m b f) := by
  have hb2 := stS_b2 (lt := lt) (f := f) h1 h2
  rw [symR_is h1 h2]
  split
  · exact rotS_cl h (by omega) (by omega)
  · exact h
theorem symF_cl {n : Nat} {lt : Nat → Nat → Bool} : ∀ (k a m b : Nat) (f : Nat → Nat), a < m → m < b → b ≤ n → Cl n f → Cl n (symF lt k a m b f)
  | 0, _, _, _, _, _, _, _, h => h
  | k + 1, a, m, b, f, h1, h2, hb, h => by
    have hr := symR_cl (lt := lt) h1 h2 hb h
    unfold symF
    split
    · have := bis_bd (P := fun h => lt (f h) (f a)) (b - m) m b (by omega)
      exact bubU_cl h (by omega)
    · split
      · have := bis_bd (P := fun h => !lt (f m) (f h)) (m - a) a m (by omega)
        exact bubD_cl h (by omega) (by omega)
      · have hr2 : Cl n (if a < stS lt a m b f ∧ stS lt a m b f < (a + b) / 2 then symF lt k a (stS lt a m b f) ((a + b) / 2) (symR lt a m b f) else symR lt a m b f) := by
          split
          · rename_i c; exact symF_cl k _ _ _ _ c.1 c.2 (by omega) hr
          · exact hr
        show Cl n (if (a + b) / 2 < (a + b) / 2 + m - stS lt a m b f ∧ (a + b) / 2 + m - stS lt a m b f < b then symF lt k ((a + b) / 2) ((a + b) / 2 + m - stS lt a m b f) b _ else _)
        split
        · rename_i c; exact symF_cl k _ _ _ _ c.1 c.2 hb hr2
        · exact hr2
theorem symF_g {lt : Nat → Nat → Bool} {k a m b : Nat} {f : Nat → Nat} (h1 : m - a ≠ 1) (h2 : b - m ≠ 1) : symF lt (k + 1) a m b f =
    if (a + b) / 2 < (a + b) / 2 + m - stS lt a m b f ∧ (a + b) / 2 + m - stS lt a m b f < b then symF lt k ((a + b) / 2) ((a + b) / 2 + m - stS lt a m b f) b (if a < stS lt a m b f ∧ stS lt a m b f < (a + b) / 2 then symF lt k a (stS lt a m b f) ((a + b) / 2) (symR lt a m b f) else symR lt a m b f) else (if a < stS lt a m b f ∧ stS lt a m b f < (a + b) / 2 then symF lt k a (stS lt a m b f) ((a + b) / 2) (symR lt a m b f) else symR lt a m b f) := by
  rw [symF, if_neg h1, if_neg h2]
theorem symF_1 {lt : Nat → Nat → Bool} {k a m b : Nat} {f : Nat → Nat} (h1 : m - a = 1) : symF lt (k + 1) a m b f = bubU (bis (fun h => lt (f h) (f a)) (b - m) m b - 1 - a) a f := by
  rw [symF, if_pos h1]
theorem symF_2 {lt : Nat → Nat → Bool} {k a m b : Nat} {f : Nat → Nat} (h1 : m - a ≠ 1) (h2 : b - m = 1) : symF lt (k + 1) a m b f = bubD (m - bis (fun h => !lt (f m) (f h)) (m - a) a m) m f := by
  rw [symF, if_neg h1, if_pos h2]
end Go.Proofs.YtlchjjchgebfiaaGreatDoor
