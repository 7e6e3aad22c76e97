/- An alarm read: the document's. -/
import Derived.Test.YtphgcgggbbcjgaaDoorW1
namespace Go.Proofs.YtphgcgggbbcjgaaDoor
open Go.RowKit Go.Dl
attribute [local irreducible] Tri SCall DFun QSem PSem PCall GCall MCall Round Weak dloadE OW DWl Tells IntKind.wrap Retold ESem

def pushO (l : List Int) : Option Int → List Int
  | none => l
  | some v => l ++ [v]
def docS (s : ByteArray) : Nat → Nat × List Int
  | 0 => (0, [])
  | i + 1 => if i < s.size ∧ byteAt s i ≠ 32 then docS s i else (i + 1, pushO (docS s i).2 (numO (s.extract (docS s i).1 i).data.toList))
theorem docS_at (s : ByteArray) (i : Nat) : (docS s i).1 ≤ i := by
  induction i with
  | zero => exact Nat.le_refl _
  | succ i ih =>
    unfold docS
    split
    · omega
    · exact Nat.le_refl _
theorem docS_len (s : ByteArray) (i : Nat) : (docS s i).2.length ≤ i := by
  induction i with
  | zero => exact Nat.le_refl _
  | succ i ih =>
    unfold docS
    split
    · omega
    · simp only
      unfold pushO
      split
      · omega
      · rw [List.length_append, List.length_singleton]; omega
theorem docS_mono (s : ByteArray) (i k : Nat) : (docS s i).2.length ≤ (docS s (i + k)).2.length := by
  induction k with
  | zero => exact Nat.le_refl _
  | succ k ih =>
    rw [show i + (k + 1) = (i + k) + 1 from rfl]
    refine Nat.le_trans ih ?_
    conv => rhs; unfold docS
    split
    · exact Nat.le_refl _
    · simp only
      unfold pushO
      split
      · exact Nat.le_refl _
      · rw [List.length_append]; omega
def hitK (s : ByteArray) (x y z : Int) (k : Int) : Option Al :=
  if (bif fitA ⟨k, x, y, z⟩ then textT ⟨k, x, y, z⟩ == s else false) = true then some ⟨k, x, y, z⟩ else if (bif fitA ⟨k, y, x, z⟩ then textT ⟨k, y, x, z⟩ == s else false) = true then some ⟨k, y, x, z⟩ else none
def docF (s : ByteArray) (x y z : Int) : Option Al := [1, 2, 3, 4].findSome? (hitK s x y z)
def resO : Option Al → Al × Int
  | some a => (a, 0)
  | none => (al0, 20)
def docT (s : ByteArray) : Al × Int := if (docS s (s.size + 1)).2.length = 3 then resO (docF s ((docS s (s.size + 1)).2.getD 0 0) ((docS s (s.size + 1)).2.getD 1 0) ((docS s (s.size + 1)).2.getD 2 0)) else (al0, 20)
def NoHit (s : ByteArray) (x y z : Int) (k : Nat) : Prop := (1 ≤ k ∧ k ≤ 5) ∧ ∀ j : Nat, 1 ≤ j → j < k → hitK s x y z j = none
theorem hit_some {s : ByteArray} {x y z : Int} {k : Nat} {a : Al} (h : NoHit s x y z k) (hk : k ≤ 4) (e : hitK s x y z k = some a) : docF s x y z = some a := by
  obtain ⟨⟨h1, _⟩, h2⟩ := h
  have hk : k = 1 ∨ k = 2 ∨ k = 3 ∨ k = 4 := by omega
  unfold docF
  rcases hk with rfl | rfl | rfl | rfl
  · rw [List.findSome?_cons, show hitK s x y z 1 = some a from e]
  · rw [List.findSome?_cons, show hitK s x y z 1 = none from h2 1 (by omega) (by omega), List.findSome?_cons, show hitK s x y z 2 = some a from e]
  · rw [List.findSome?_cons, show hitK s x y z 1 = none from h2 1 (by omega) (by omega), List.findSome?_cons, show hitK s x y z 2 = none from h2 2 (by omega) (by omega), List.findSome?_cons, show hitK s x y z 3 = some a from e]
  · rw [List.findSome?_cons, show hitK s x y z 1 = none from h2 1 (by omega) (by omega), List.findSome?_cons, show hitK s x y z 2 = none from h2 2 (by omega) (by omega), List.findSome?_cons, show hitK s x y z 3 = none from h2 3 (by omega) (by omega), List.findSome?_cons, show hitK s x y z 4 = some a from e]
theorem hit_none {s : ByteArray} {x y z : Int} (h : NoHit s x y z 5) : docF s x y z = none := by
  have h2 := h.2
  unfold docF
  rw [List.findSome?_cons, show hitK s x y z 1 = none from h2 1 (by omega) (by omega), List.findSome?_cons, show hitK s x y z 2 = none from h2 2 (by omega) (by omega), List.findSome?_cons, show hitK s x y z 3 = none from h2 3 (by omega) (by omega), List.findSome?_cons, show hitK s x y z 4 = none from h2 4 (by omega) (by omega)]; rfl
def docSt (s : ByteArray) (i : Nat × Nat × List Int) : St := ⟨0, tmOf [(0, .v (.string s)), (2, .ref 0 0), (4, .arr 1 i.2.2.length), (5, int1 i.2.1), (6, int1 i.1)], .of [(0, ⟨23, 4, alD al0⟩), (1, ⟨2, 1, rowI i.2.2⟩)] 2⟩
def docSt2 (s : ByteArray) (L : List Int) (k : Nat) : St := ⟨0, tmOf [(0, .v (.string s)), (2, .ref 0 0), (4, .arr 1 L.length), (9, int1 k)], .of [(0, ⟨23, 4, alD al0⟩), (1, ⟨2, 1, rowI L⟩)] 2⟩
def DocI (s : ByteArray) (i : Nat × Nat × List Int) : Prop := i.1 ≤ s.size + 1 ∧ i.2 = docS s i.1
theorem docS_zero (s : ByteArray) : docS s 0 = (0, []) := rfl
theorem docS_skip {s : ByteArray} {i : Nat} (h : (bif decide ((i : Int) < (s.size : Int)) then byteAt s ((i : Nat) : Int).toNat != 32 else false) = true) : docS s (i + 1) = docS s i := by
  rw [Int.toNat_natCast] at h
  simp only [Bool.cond_false_right, Bool.and_eq_true, decide_eq_true_eq, bne_iff_ne, ne_eq] at h
  rw [docS, if_pos ⟨by omega, h.2⟩]
theorem docS_word {s : ByteArray} {i : Nat} (h : (bif decide ((i : Int) < (s.size : Int)) then byteAt s ((i : Nat) : Int).toNat != 32 else false) = false) : docS s (i + 1) = (i + 1, pushO (docS s i).2 (numO (s.extract (docS s i).1 i).data.toList)) := by
  rw [Int.toNat_natCast] at h
  simp only [Bool.cond_false_right, Bool.and_eq_false_imp, decide_eq_true_eq, bne_eq_false_iff_eq] at h
  rw [docS, if_neg fun hc => hc.2 (h (by omega))]
theorem num_yes {o : Option Int} (h : (numR o).2 = true) : o = some (numR o).1 := by
  cases o with
  | none => cases h
  | some v => rfl
theorem num_no {o : Option Int} (h : (numR o).2 = false) : o = none := by
  cases o with
  | none => rfl
  | some v => cases h
theorem doc_le {s : ByteArray} {i : Nat × Nat × List Int} (h : (bif decide ((i.1 : Int) ≤ (s.size : Int)) then decide (((i.2.2.length : Nat) : Int) < 4) else false) = true) : i.1 < s.size + 1 ∧ i.2.2.length < 4 := by
  simp only [Bool.cond_false_right, Bool.and_eq_true, decide_eq_true_eq] at h
  omega
theorem doc_yes {s : ByteArray} {i : Nat × Nat × List Int} (hi : DocI s i) (hle : i.1 < s.size + 1) (h : (bif decide ((i.1 : Int) < (s.size : Int)) then byteAt s ((i.1 : Nat) : Int).toNat != 32 else false) = false)
    (hn : (numR (numO (s.extract ((i.2.1 : Nat) : Int).toNat ((i.1 : Nat) : Int).toNat).data.toList)).2 = true) : DocI s (i.1 + 1, i.1 + 1, i.2.2 ++ [(numR (numO (s.extract ((i.2.1 : Nat) : Int).toNat ((i.1 : Nat) : Int).toNat).data.toList)).1]) := by
  refine ⟨hle, ?_⟩
  have e := num_yes hn
  rw [Int.toNat_natCast, Int.toNat_natCast] at e ⊢
  rw [docS_word h, ← hi.2]
  generalize numO (s.extract i.2.1 i.1).data.toList = o at e ⊢
  rw [e]
  rfl
theorem doc_no {s : ByteArray} {i : Nat × Nat × List Int} (hi : DocI s i) (hle : i.1 < s.size + 1) (h : (bif decide ((i.1 : Int) < (s.size : Int)) then byteAt s ((i.1 : Nat) : Int).toNat != 32 else false) = false)
    (hn : (numR (numO (s.extract ((i.2.1 : Nat) : Int).toNat ((i.1 : Nat) : Int).toNat).data.toList)).2 = false) : DocI s (i.1 + 1, i.1 + 1, i.2.2) := by
  refine ⟨hle, ?_⟩
  have e := num_no hn
  rw [Int.toNat_natCast, Int.toNat_natCast] at e
  rw [docS_word h, ← hi.2, e]
  rfl
theorem doc_skip {s : ByteArray} {i : Nat × Nat × List Int} (hi : DocI s i) (hle : i.1 < s.size + 1) (h : (bif decide ((i.1 : Int) < (s.size : Int)) then byteAt s ((i.1 : Nat) : Int).toNat != 32 else false) = true) : DocI s (i.1 + 1, i.2) :=
  ⟨hle, by rw [docS_skip h]; exact hi.2⟩
theorem doc_end {s : ByteArray} {i : Nat × Nat × List Int} (hi : DocI s i) (h : (bif decide ((i.1 : Int) ≤ (s.size : Int)) then decide (((i.2.2.length : Nat) : Int) < 4) else false) = false) :
    (i.2.2.length = 3 ↔ (docS s (s.size + 1)).2.length = 3) ∧ (i.2.2.length = 3 → i.2.2 = (docS s (s.size + 1)).2) := by
  simp only [Bool.cond_false_right, Bool.and_eq_false_imp, decide_eq_true_eq, decide_eq_false_iff_not] at h
  have hle := hi.1
  by_cases e : i.1 = s.size + 1
  · have e2 := hi.2
    rw [e] at e2
    rw [e2]
    exact ⟨Iff.rfl, fun _ => rfl⟩
  · have h1 : ¬ i.2.2.length < 4 := fun hc => (h (by omega)) (by omega)
    have h2 := docS_mono s i.1 (s.size + 1 - i.1)
    rw [show i.1 + (s.size + 1 - i.1) = s.size + 1 by omega, ← hi.2] at h2
    exact ⟨⟨fun _ => by omega, fun _ => by omega⟩, fun _ => by omega⟩
theorem doc_err {s : ByteArray} (h : ¬ (docS s (s.size + 1)).2.length = 3) : docT s = (al0, 20) := by rw [docT, if_neg h]
theorem doc_res {s : ByteArray} {x y z : Int} (h : [x, y, z] = (docS s (s.size + 1)).2) : docT s = resO (docF s x y z) := by
  rw [docT, ← h]; rfl
theorem hit_first {s : ByteArray} {x y z k : Int} (h : (bif fitA ⟨k, x, y, z⟩ then textT ⟨k, x, y, z⟩ == s else false) = true) : hitK s x y z k = some ⟨k, x, y, z⟩ := by rw [hitK, if_pos h]
theorem hit_second {s : ByteArray} {x y z k : Int} (h1 : (bif fitA ⟨k, x, y, z⟩ then textT ⟨k, x, y, z⟩ == s else false) = false) (h : (bif fitA ⟨k, y, x, z⟩ then textT ⟨k, y, x, z⟩ == s else false) = true) : hitK s x y z k = some ⟨k, y, x, z⟩ := by
  rw [hitK, if_neg (by rw [h1]; decide), if_pos h]
theorem hit_no {s : ByteArray} {x y z k : Int} (h1 : (bif fitA ⟨k, x, y, z⟩ then textT ⟨k, x, y, z⟩ == s else false) = false) (h : (bif fitA ⟨k, y, x, z⟩ then textT ⟨k, y, x, z⟩ == s else false) = false) : hitK s x y z k = none := by
  rw [hitK, if_neg (by rw [h1]; decide), if_neg (by rw [h]; decide)]
theorem nohit_next {s : ByteArray} {x y z : Int} {k : Nat} (h : NoHit s x y z k) (hk : k ≤ 4) (e : hitK s x y z k = none) : NoHit s x y z (k + 1) := by
  refine ⟨⟨by omega, by omega⟩, fun j h1 h2 => ?_⟩
  by_cases hj : j = k
  · subst hj; exact e
  · exact h.2 j h1 (by omega)
theorem nohit_one (s : ByteArray) (x y z : Int) : NoHit s x y z 1 := ⟨⟨by omega, by omega⟩, fun j h1 h2 => by omega⟩
attribute [local irreducible] numO byteAt textT docS hitK docF fitA
set_option maxRecDepth 20000 in
theorem parse20_D (s : ByteArray) (hs : s.size < 4294967281) : DPure Tryd.prog 20 [.v (.string s)] (.tup [.agg (alD (docT s).1), int1 (docT s).2]) := by
  refine DFun.data (DFun.body Tryd.func20 rfl (by kernel_rfl) ?_)
  repeat' (first | with_reducible rfl | ((conv => whnf); first | refine And.intro ?_ ?_ | (intro h; first | exact Bool.noConfusion h | with_reducible exact h | (have ht : true = true := h; clear ht h) | skip) | ((with_reducible refine DWl.mark ?_); repeat' (first | refine DWl.cons ?_ ?_ | exact DWl.nil | exact DW.same _ rfl | exact DW.ref _ _ _ rfl | exact DW.arr _ _ _ rfl | exact DW.sub _ _ _ _ rfl | exact DW.nilLst _ | refine DW.aggl ?_ | refine DW.tupl ?_ | refine DW.clol ?_ ?_ | refine DW.int ?_ | refine DW.bool ?_ | refine DW.str ?_)) | ((with_reducible refine SCall.mark ?_); first | refine SCall.data (number37_D _ ?_) rfl rfl ?_ | refine SCall.scal (number37_D _ ?_) rfl rfl ?_) | ((with_reducible refine PCall.mark ?_); first | refine PCall.mk (number37_D _ ?_) rfl rfl ?_) | ((with_reducible refine GCall.mark ?_); first | refine GCall.data (fun _ => number37_D _ ?_) rfl rfl ?_ | refine GCall.scal (fun _ => number37_D _ ?_) rfl rfl ?_) | ((with_reducible refine MCall.mark ?_); first | refine MCall.data (fun _ => number37_D _ ?_) rfl rfl ?_ | refine MCall.plain (PCall.mk (number37_D _ ?_) rfl rfl ?_)) | ((with_reducible refine Tri.mark ?_); first | (refine Tri.at (6) (int1 0) (by rfl) ?_; refine Tri.loop (docSt s) (DocI s) (fun i => s.size + 1 - i.1) (0, 0, []) (by kernel_rfl) (Weak.list [(0, some 0), (1, none)] [] (by kernel_rfl) ?_ ?_) ?_ ?_)) | refine dcell_ok rfl ?_ | refine AppC.new ?_))
  all_goals first | (with_reducible refine enters_mark ?_; kernel_rfl) | (with_reducible refine boolT_mark ?_; kernel_rfl) | rfl | trivial | assumption | exact Nat.le_of_ble_eq_true rfl | (show entersB _ _ = true; kernel_rfl) | exact DW.same _ rfl | exact DW.ref _ _ _ rfl | exact DW.arr _ _ _ rfl | refine DW.int ?_ | refine dvb ?_ | refine dvi ?_ | exact OW.cells rfl rfl (DWl.same rfl) | exact Nat.zero_le _ | omega | skip
  all_goals repeat' (first | refine OW.cells rfl rfl ?_ | exact DW.nilArr _ rfl | refine DWl.cons ?_ ?_ | exact DWl.nil | exact DW.same _ rfl | exact DW.ref _ _ _ rfl | exact DW.arr _ _ _ rfl | exact DW.sub _ _ _ _ rfl | exact DW.nilLst _ | refine DW.aggl ?_ | refine DW.tupl ?_ | refine DW.clol ?_ ?_)
  all_goals try ((conv => whnf); with_reducible first | refine Round.mark ?_ | refine Tells.mark ?_ | refine Retold.mark ?_)
  all_goals try first | (show (_ : Bool) = _; simp_all; done) | (show (_ : Int) < _; simp at *; omega) | (show (_ : Int) ≤ _; simp at *; omega) | (show (_ : Nat) < _; simp at *; omega) | (show (_ : Nat) ≤ _; simp at *; omega)
  · exact (docS_zero s).symm
  · rename_i i hi e1
    have hle := doc_le e1
    refine Round.go (fun _ => (i.1 + 1, i.2)) (doc_skip hi hle.1 h) (by show s.size + 1 - (i.1 + 1) < s.size + 1 - i.1; omega) (Weak.list [(0, some 0), (1, some 1)] [] (by kernel_rfl) ?_ ?_)
    · repeat' (first | exact wsucc hle.1 (by omega) | exact DWl.eq (rfl : alD al0 = alD al0) (alD_all _) | exact DWl.eq (rfl : rowI i.2.2 = rowI i.2.2) (rowI_all _) | exact DW.same _ rfl | exact DW.ref _ _ _ rfl | exact DW.arr _ _ _ rfl | exact OW.cells rfl rfl (DWl.same rfl) | refine OW.cells rfl rfl ?_ | refine DWl.cons ?_ ?_ | exact DWl.nil | exact DW.nilArr _ rfl | exact DW.nilLst _ | refine DW.clol ?_ ?_ | refine DW.aggl ?_ | refine DW.tupl ?_ | refine DW.int ?_ | refine DW.bool ?_ | refine DW.str ?_ | refine DW.arrE rfl ?_ | ((conv => whnf); first | refine And.intro ?_ ?_ | trivial))
    · repeat' (first | exact wsucc hle.1 (by omega) | exact DWl.eq (rfl : alD al0 = alD al0) (alD_all _) | exact DWl.eq (rfl : rowI i.2.2 = rowI i.2.2) (rowI_all _) | exact DW.same _ rfl | exact DW.ref _ _ _ rfl | exact DW.arr _ _ _ rfl | exact OW.cells rfl rfl (DWl.same rfl) | refine OW.cells rfl rfl ?_ | refine DWl.cons ?_ ?_ | exact DWl.nil | exact DW.nilArr _ rfl | exact DW.nilLst _ | refine DW.clol ?_ ?_ | refine DW.aggl ?_ | refine DW.tupl ?_ | refine DW.int ?_ | refine DW.bool ?_ | refine DW.str ?_ | refine DW.arrE rfl ?_ | ((conv => whnf); first | refine And.intro ?_ ?_ | trivial))
  · rename_i i hi e1
    have := docS_at s i.1
    rw [← hi.2] at this
    exact Int.ofNat_le.2 this
  · exact ri_b1 _
  · rename_i i hi e1 e0
    have hle := doc_le e1
    simp only [maxLen]; omega
  · rename_i i hi e1 e0
    have hle := doc_le e1
    refine Round.go (fun _ => (i.1 + 1, i.1 + 1, i.2.2 ++ [(numR (numO (s.extract ((i.2.1 : Nat) : Int).toNat ((i.1 : Nat) : Int).toNat).data.toList)).1])) (doc_yes hi hle.1 e0 h) (by show s.size + 1 - (i.1 + 1) < s.size + 1 - i.1; omega) (Weak.list [(0, some 0), (1, some 3)] [] (by kernel_rfl) ?_ ?_)
    · repeat' (first | exact wsucc hle.1 (by omega) | exact DWl.eq (rfl : alD al0 = alD al0) (alD_all _) | exact DWl.eq (rowI_push i.2.2 _) (rowI_all _) | exact pushI _ _ | exact DW.same _ rfl | exact DW.ref _ _ _ rfl | exact DW.arr _ _ _ rfl | exact OW.cells rfl rfl (DWl.same rfl) | refine OW.cells rfl rfl ?_ | refine DWl.cons ?_ ?_ | exact DWl.nil | exact DW.nilArr _ rfl | exact DW.nilLst _ | refine DW.clol ?_ ?_ | refine DW.aggl ?_ | refine DW.tupl ?_ | refine DW.int ?_ | refine DW.bool ?_ | refine DW.str ?_ | refine DW.arrE rfl ?_ | ((conv => whnf); first | refine And.intro ?_ ?_ | trivial))
    · repeat' (first | exact wsucc hle.1 (by omega) | exact DWl.eq (rfl : alD al0 = alD al0) (alD_all _) | exact DWl.eq (rowI_push i.2.2 _) (rowI_all _) | exact pushI _ _ | exact DW.same _ rfl | exact DW.ref _ _ _ rfl | exact DW.arr _ _ _ rfl | exact OW.cells rfl rfl (DWl.same rfl) | refine OW.cells rfl rfl ?_ | refine DWl.cons ?_ ?_ | exact DWl.nil | exact DW.nilArr _ rfl | exact DW.nilLst _ | refine DW.clol ?_ ?_ | refine DW.aggl ?_ | refine DW.tupl ?_ | refine DW.int ?_ | refine DW.bool ?_ | refine DW.str ?_ | refine DW.arrE rfl ?_ | ((conv => whnf); first | refine And.intro ?_ ?_ | trivial))
  · rename_i i hi e1 e0
    have hle := doc_le e1
    refine Round.go (fun _ => (i.1 + 1, i.1 + 1, i.2.2)) (doc_no hi hle.1 e0 h) (by show s.size + 1 - (i.1 + 1) < s.size + 1 - i.1; omega) (Weak.list [(0, some 0), (1, some 1)] [] (by kernel_rfl) ?_ ?_)
    · repeat' (first | exact wsucc hle.1 (by omega) | exact DWl.eq (rfl : alD al0 = alD al0) (alD_all _) | exact DWl.eq (rfl : rowI i.2.2 = rowI i.2.2) (rowI_all _) | exact DW.same _ rfl | exact DW.ref _ _ _ rfl | exact DW.arr _ _ _ rfl | exact OW.cells rfl rfl (DWl.same rfl) | refine OW.cells rfl rfl ?_ | refine DWl.cons ?_ ?_ | exact DWl.nil | exact DW.nilArr _ rfl | exact DW.nilLst _ | refine DW.clol ?_ ?_ | refine DW.aggl ?_ | refine DW.tupl ?_ | refine DW.int ?_ | refine DW.bool ?_ | refine DW.str ?_ | refine DW.arrE rfl ?_ | ((conv => whnf); first | refine And.intro ?_ ?_ | trivial))
    · repeat' (first | exact wsucc hle.1 (by omega) | exact DWl.eq (rfl : alD al0 = alD al0) (alD_all _) | exact DWl.eq (rfl : rowI i.2.2 = rowI i.2.2) (rowI_all _) | exact DW.same _ rfl | exact DW.ref _ _ _ rfl | exact DW.arr _ _ _ rfl | exact OW.cells rfl rfl (DWl.same rfl) | refine OW.cells rfl rfl ?_ | refine DWl.cons ?_ ?_ | exact DWl.nil | exact DW.nilArr _ rfl | exact DW.nilLst _ | refine DW.clol ?_ ?_ | refine DW.aggl ?_ | refine DW.tupl ?_ | refine DW.int ?_ | refine DW.bool ?_ | refine DW.str ?_ | refine DW.arrE rfl ?_ | ((conv => whnf); first | refine And.intro ?_ ?_ | trivial))
  · rename_i i hi e1
    have e4 := doc_err (fun hc => len3 h ((doc_end hi e1).1.2 hc))
    conv => whnf
    exact Tells.of (r1 := .tup [.agg (alD al0), int1 20]) (by rw [e4]) (Tells.mk (DW.tupl (DWl.cons (DW.aggl (DWl.cons (DW.int rfl) (DWl.cons (DW.int rfl) (DWl.cons (DW.int rfl) (DWl.cons (DW.int rfl) DWl.nil))))) (DWl.cons (DW.int rfl) DWl.nil))))
  · rename_i i hi e1
    have hL : i.2.2.length = 3 := len3' h
    have e4 := (doc_end hi e1).2 hL
    clear hi e1 h
    obtain ⟨i0, a0, L⟩ := i
    match L, hL with
    | [x, y, z], _ =>
    have e5 := doc_res e4
    rw [e5]
    clear e5 e4
    conv => whnf
    refine Tri.loop (docSt2 s [x, y, z]) (NoHit s x y z) (fun k => 5 - k) 1 (by kernel_rfl) (Weak.list [(0, some 0), (1, some 1)] [] (by kernel_rfl) ?_ ?_) (nohit_one s x y z) ?_
    · repeat' (first | exact DWl.eq (rfl : alD al0 = alD al0) (alD_all _) | exact DWl.eq (rfl : rowI [x, y, z] = rowI [x, y, z]) (rowI_all _) | exact DW.same _ rfl | exact DW.ref _ _ _ rfl | exact DW.arr _ _ _ rfl | exact OW.cells rfl rfl (DWl.same rfl) | refine OW.cells rfl rfl ?_ | refine DWl.cons ?_ ?_ | exact DWl.nil | exact DW.nilArr _ rfl | exact DW.nilLst _ | refine DW.clol ?_ ?_ | refine DW.aggl ?_ | refine DW.tupl ?_ | refine DW.int ?_ | refine DW.bool ?_ | refine DW.str ?_ | refine DW.arrE rfl ?_ | ((conv => whnf); first | refine And.intro ?_ ?_ | trivial))
    · repeat' (first | exact DWl.eq (rfl : alD al0 = alD al0) (alD_all _) | exact DWl.eq (rfl : rowI [x, y, z] = rowI [x, y, z]) (rowI_all _) | exact DW.same _ rfl | exact DW.ref _ _ _ rfl | exact DW.arr _ _ _ rfl | exact OW.cells rfl rfl (DWl.same rfl) | refine OW.cells rfl rfl ?_ | refine DWl.cons ?_ ?_ | exact DWl.nil | exact DW.nilArr _ rfl | exact DW.nilLst _ | refine DW.clol ?_ ?_ | refine DW.aggl ?_ | refine DW.tupl ?_ | refine DW.int ?_ | refine DW.bool ?_ | refine DW.str ?_ | refine DW.arrE rfl ?_ | ((conv => whnf); first | refine And.intro ?_ ?_ | trivial))
    intro k hk
    repeat' (first | with_reducible rfl | ((conv => whnf); first | refine And.intro ?_ ?_ | (intro h; first | exact Bool.noConfusion h | with_reducible exact h | (have ht : true = true := h; clear ht h) | skip) | ((with_reducible refine DWl.mark ?_); repeat' (first | refine DWl.cons ?_ ?_ | exact DWl.nil | exact DW.same _ rfl | exact DW.ref _ _ _ rfl | exact DW.arr _ _ _ rfl | exact DW.sub _ _ _ _ rfl | exact DW.nilLst _ | refine DW.aggl ?_ | refine DW.tupl ?_ | refine DW.clol ?_ ?_ | refine DW.int ?_ | refine DW.bool ?_ | refine DW.str ?_)) | ((with_reducible refine SCall.mark ?_); first | refine SCall.data (fit15_D ⟨(k : Int), x, y, z⟩) rfl rfl ?_ | refine SCall.scal (fit15_D ⟨(k : Int), x, y, z⟩) rfl rfl ?_ | refine SCall.data (fit15_D ⟨(k : Int), y, x, z⟩) rfl rfl ?_ | refine SCall.scal (fit15_D ⟨(k : Int), y, x, z⟩) rfl rfl ?_ | refine SCall.data (text22_D ⟨(k : Int), x, y, z⟩) rfl rfl ?_ | refine SCall.scal (text22_D ⟨(k : Int), x, y, z⟩) rfl rfl ?_ | refine SCall.data (text22_D ⟨(k : Int), y, x, z⟩) rfl rfl ?_ | refine SCall.scal (text22_D ⟨(k : Int), y, x, z⟩) rfl rfl ?_) | ((with_reducible refine PCall.mark ?_); first | refine PCall.mk (fit15_D ⟨(k : Int), x, y, z⟩) rfl rfl ?_ | refine PCall.mk (fit15_D ⟨(k : Int), y, x, z⟩) rfl rfl ?_ | refine PCall.mk (text22_D ⟨(k : Int), x, y, z⟩) rfl rfl ?_ | refine PCall.mk (text22_D ⟨(k : Int), y, x, z⟩) rfl rfl ?_) | ((with_reducible refine GCall.mark ?_); first | refine GCall.data (fun _ => fit15_D ⟨(k : Int), x, y, z⟩) rfl rfl ?_ | refine GCall.scal (fun _ => fit15_D ⟨(k : Int), x, y, z⟩) rfl rfl ?_ | refine GCall.data (fun _ => fit15_D ⟨(k : Int), y, x, z⟩) rfl rfl ?_ | refine GCall.scal (fun _ => fit15_D ⟨(k : Int), y, x, z⟩) rfl rfl ?_ | refine GCall.data (fun _ => text22_D ⟨(k : Int), x, y, z⟩) rfl rfl ?_ | refine GCall.scal (fun _ => text22_D ⟨(k : Int), x, y, z⟩) rfl rfl ?_ | refine GCall.data (fun _ => text22_D ⟨(k : Int), y, x, z⟩) rfl rfl ?_ | refine GCall.scal (fun _ => text22_D ⟨(k : Int), y, x, z⟩) rfl rfl ?_) | ((with_reducible refine MCall.mark ?_); first | refine MCall.data (fun _ => fit15_D ⟨(k : Int), x, y, z⟩) rfl rfl ?_ | refine MCall.plain (PCall.mk (fit15_D ⟨(k : Int), x, y, z⟩) rfl rfl ?_) | refine MCall.data (fun _ => fit15_D ⟨(k : Int), y, x, z⟩) rfl rfl ?_ | refine MCall.plain (PCall.mk (fit15_D ⟨(k : Int), y, x, z⟩) rfl rfl ?_) | refine MCall.data (fun _ => text22_D ⟨(k : Int), x, y, z⟩) rfl rfl ?_ | refine MCall.plain (PCall.mk (text22_D ⟨(k : Int), x, y, z⟩) rfl rfl ?_) | refine MCall.data (fun _ => text22_D ⟨(k : Int), y, x, z⟩) rfl rfl ?_ | refine MCall.plain (PCall.mk (text22_D ⟨(k : Int), y, x, z⟩) rfl rfl ?_)) | ((with_reducible refine Tri.mark ?_); first | (refine Tri.movesN (id := 16) [2] [(true, 0), (true, 1), (true, 2), (true, 3), (true, 4), (true, 5), (true, 6), (true, 7), (true, 8), (true, 9), (true, 10), (false, 11), (false, 12)] ?_ (by kernel_rfl) ?_; rfl) | (refine Tri.movesN (id := 17) [3] [(true, 0), (true, 1), (true, 2), (true, 3), (true, 4), (true, 5), (true, 6), (true, 7), (true, 8), (true, 9), (true, 10), (false, 11), (false, 12)] ?_ (by kernel_rfl) ?_; rfl)) | refine dcell_ok rfl ?_ | refine AppC.new ?_))
    all_goals try ((conv => whnf); first | with_reducible refine Round.mark ?_ | with_reducible refine Tells.mark ?_)
    all_goals try first | ((with_reducible show (_ : Int) < ((List.length _ : Nat) : Int)); exact of_decide_eq_true rfl) | ((with_reducible show Option.all _ _ = true); rfl) | ((with_reducible show Option.isSome (slElem _ _) = true); kernel_rfl) | ((with_reducible show slElem _ _ = some _); kernel_rfl) | ((with_reducible refine enters_mark ?_); kernel_rfl) | (with_reducible assumption) | ((with_reducible show List.all _ DV.one = true); rfl) | ((with_reducible show (_ : Nat) = _); rfl) | ((with_reducible show (_ == true) = true); simpa using h) | ((with_reducible show (_ : Nat) ≤ _); exact Nat.le_of_ble_eq_true rfl) | ((with_reducible show (_ : Int) ≤ _); first | omega | decide) | ((with_reducible show (_ : Int) < _); first | omega | decide) | ((with_reducible show (_ : Nat) < _); omega) | ((with_reducible show (_ : Nat) ≤ _); omega)
    · have hk4 : k ≤ 4 := by have := of_decide_eq_true ‹decide ((k : Int) ≤ 4) = true›; omega
      exact Tells.of (r1 := .tup [.agg (alD ⟨(k : Int), x, y, z⟩), int1 0]) (by rw [hit_some hk hk4 (hit_first h)]; rfl) (Tells.mk (DW.tupl (DWl.cons (DW.aggl (DWl.cons (DW.int rfl) (DWl.cons (DW.int rfl) (DWl.cons (DW.int rfl) (DWl.cons (DW.int rfl) DWl.nil))))) (DWl.cons (DW.int rfl) DWl.nil))))
    · have hk4 : k ≤ 4 := by have := of_decide_eq_true ‹decide ((k : Int) ≤ 4) = true›; omega
      rename_i e1
      exact Tells.of (r1 := .tup [.agg (alD ⟨(k : Int), y, x, z⟩), int1 0]) (by rw [hit_some hk hk4 (hit_second e1 h)]; rfl) (Tells.mk (DW.tupl (DWl.cons (DW.aggl (DWl.cons (DW.int rfl) (DWl.cons (DW.int rfl) (DWl.cons (DW.int rfl) (DWl.cons (DW.int rfl) DWl.nil))))) (DWl.cons (DW.int rfl) DWl.nil))))
    · have hk4 : k ≤ 4 := by have := of_decide_eq_true ‹decide ((k : Int) ≤ 4) = true›; omega
      rename_i e1
      refine Round.go (· + 1) (nohit_next hk hk4 (hit_no e1 h)) (by show 5 - (k + 1) < 5 - k; omega) (Weak.list [(0, some 0), (1, some 1)] [] (by kernel_rfl) ?_ ?_)
      · repeat' (first | exact wsucc (n := 5) (by omega) (by omega) | exact DWl.eq (rfl : alD al0 = alD al0) (alD_all _) | exact DWl.eq (rfl : rowI [x, y, z] = rowI [x, y, z]) (rowI_all _) | exact DW.same _ rfl | exact DW.ref _ _ _ rfl | exact DW.arr _ _ _ rfl | exact OW.cells rfl rfl (DWl.same rfl) | refine OW.cells rfl rfl ?_ | refine DWl.cons ?_ ?_ | exact DWl.nil | exact DW.nilArr _ rfl | exact DW.nilLst _ | refine DW.clol ?_ ?_ | refine DW.aggl ?_ | refine DW.tupl ?_ | refine DW.int ?_ | refine DW.bool ?_ | refine DW.str ?_ | refine DW.arrE rfl ?_ | ((conv => whnf); first | refine And.intro ?_ ?_ | trivial))
      · repeat' (first | exact wsucc (n := 5) (by omega) (by omega) | exact DWl.eq (rfl : alD al0 = alD al0) (alD_all _) | exact DWl.eq (rfl : rowI [x, y, z] = rowI [x, y, z]) (rowI_all _) | exact DW.same _ rfl | exact DW.ref _ _ _ rfl | exact DW.arr _ _ _ rfl | exact OW.cells rfl rfl (DWl.same rfl) | refine OW.cells rfl rfl ?_ | refine DWl.cons ?_ ?_ | exact DWl.nil | exact DW.nilArr _ rfl | exact DW.nilLst _ | refine DW.clol ?_ ?_ | refine DW.aggl ?_ | refine DW.tupl ?_ | refine DW.int ?_ | refine DW.bool ?_ | refine DW.str ?_ | refine DW.arrE rfl ?_ | ((conv => whnf); first | refine And.intro ?_ ?_ | trivial))
    · have hk5 : k = 5 := by have := of_decide_eq_false h; have := hk.1.2; omega
      subst hk5
      exact Tells.of (r1 := .tup [.agg (alD al0), int1 20]) (by rw [hit_none hk]; rfl) (Tells.mk (DW.tupl (DWl.cons (DW.aggl (DWl.cons (DW.int rfl) (DWl.cons (DW.int rfl) (DWl.cons (DW.int rfl) (DWl.cons (DW.int rfl) DWl.nil))))) (DWl.cons (DW.int rfl) DWl.nil))))
end Go.Proofs.YtphgcgggbbcjgaaDoor
