/- What the ranks are, in plain words: put in one by one or sorted, the order is the same. -/
import Derived.Sort.LotA
import Derived.Shelf.SlSortCmp.Insertion
import GoSem.Op.String
import Derived.Test.YtphgcgggbbcjgaaDoorRows
import Derived.Test.YtphgcgggbbcjgaaDoorDl28
import Derived.KernelRfl
import Derived.Test.YtphgcgggbbcjgaaDoorS
import Derived.Test.YtphgcgggbbcjgaaDoorShelf2

namespace Go.Proofs.YtphgcgggbbcjgaaDoor
open Go.Sort

structure STO {α : Type} (r : α → α → Prop) : Prop where
  irr : ∀ x, ¬ r x x
  tr : ∀ x y z, r x y → r y z → r x z
  tot : ∀ x y, ¬ r x y → ¬ r y x → x = y
theorem sto_lex {α β : Type} {r : α → α → Prop} {s : β → β → Prop} (h : STO r) (k : STO s) : STO (fun p q : α × β => r p.1 q.1 ∨ (p.1 = q.1 ∧ s p.2 q.2)) where
  irr x hx := by
    rcases hx with hx | hx
    · exact h.irr _ hx
    · exact k.irr _ hx.2
  tr x y z h1 h2 := by
    rcases h1 with h1 | ⟨e1, h1⟩
    · rcases h2 with h2 | ⟨e2, h2⟩
      · exact Or.inl (h.tr _ _ _ h1 h2)
      · exact Or.inl (e2 ▸ h1)
    · rcases h2 with h2 | ⟨e2, h2⟩
      · exact Or.inl (e1 ▸ h2)
      · exact Or.inr ⟨e1.trans e2, k.tr _ _ _ h1 h2⟩
  tot x y h1 h2 := by
    have e1 : x.1 = y.1 := h.tot _ _ (fun c => h1 (Or.inl c)) (fun c => h2 (Or.inl c))
    have e2 : x.2 = y.2 := k.tot _ _ (fun c => h1 (Or.inr ⟨e1, c⟩)) (fun c => h2 (Or.inr ⟨e1.symm, c⟩))
    exact Prod.ext e1 e2
theorem sto_bool : STO (fun a b : Bool => a = false ∧ b = true) where
  irr x h := by rw [h.1] at h; exact absurd h.2 (by decide)
  tr x y z h1 h2 := ⟨h1.1, h2.2⟩
  tot x y h1 h2 := by cases x <;> cases y <;> simp at *
theorem sto_int : STO (fun a b : Int => a < b) where
  irr x h := by omega
  tr x y z h1 h2 := by omega
  tot x y h1 h2 := by omega
theorem sto_nat : STO (fun a b : Nat => a < b) where
  irr x h := by omega
  tr x y z h1 h2 := by omega
  tot x y h1 h2 := by omega
theorem bytes_irr : ∀ x, Op.bytesLess x x = false
  | [] => rfl
  | a :: x => by
    have := bytes_irr x
    simp [Op.bytesLess, this]
theorem bytes_tr : ∀ x y z, Op.bytesLess x y = true → Op.bytesLess y z = true → Op.bytesLess x z = true
  | [], [], _, h, _ => by simp [Op.bytesLess] at h
  | _ :: _, [], _, h, _ => by simp [Op.bytesLess] at h
  | [], _ :: _, [], _, h => by simp [Op.bytesLess] at h
  | [], _ :: _, _ :: _, _, _ => rfl
  | _ :: _, _ :: _, [], _, h => by simp [Op.bytesLess] at h
  | a :: x, b :: y, c :: z, h1, h2 => by
    simp only [Op.bytesLess, Bool.or_eq_true, Bool.and_eq_true, decide_eq_true_eq, beq_iff_eq] at *
    rcases h1 with h1 | ⟨e1, h1⟩
    · rcases h2 with h2 | ⟨e2, h2⟩
      · exact Or.inl (UInt8.lt_trans h1 h2)
      · exact Or.inl (e2 ▸ h1)
    · rcases h2 with h2 | ⟨e2, h2⟩
      · exact Or.inl (e1 ▸ h2)
      · exact Or.inr ⟨e1.trans e2, bytes_tr x y z h1 h2⟩
theorem bytes_tot : ∀ x y, Op.bytesLess x y = false → Op.bytesLess y x = false → x = y
  | [], [], _, _ => rfl
  | _ :: _, [], _, h => by simp [Op.bytesLess] at h
  | [], _ :: _, h, _ => by simp [Op.bytesLess] at h
  | a :: x, b :: y, h1, h2 => by
    simp only [Op.bytesLess, Bool.or_eq_false_iff, decide_eq_false_iff_not, Bool.and_eq_false_imp, beq_iff_eq] at *
    have e : a = b := by
      apply UInt8.toNat_inj.1
      have g1 := h1.1
      have g2 := h2.1
      rw [UInt8.lt_iff_toNat_lt] at g1 g2
      omega
    subst e
    rw [bytes_tot x y (h1.2 rfl) (h2.2 rfl)]
theorem sto_bytes : STO (fun a b : List UInt8 => Op.bytesLess a b = true) where
  irr x h := by rw [bytes_irr] at h; cases h
  tr := bytes_tr
  tot x y h1 h2 := bytes_tot x y (by simpa using h1) (by simpa using h2)

/-- The order of places by what is acknowledged, since when, the name, the place. -/
structure Keys where
  ak : Nat → Bool
  si : Nat → Int
  nm : Nat → List UInt8
def Keys.key (K : Keys) (i : Nat) : Bool × Int × List UInt8 × Nat := (K.ak i, K.si i, K.nm i, i)
def keyLt : Bool × Int × List UInt8 × Nat → Bool × Int × List UInt8 × Nat → Prop := fun p q => (p.1 = false ∧ q.1 = true) ∨ (p.1 = q.1 ∧ (p.2.1 < q.2.1 ∨ (p.2.1 = q.2.1 ∧ (Op.bytesLess p.2.2.1 q.2.2.1 = true ∨ (p.2.2.1 = q.2.2.1 ∧ p.2.2.2 < q.2.2.2)))))
theorem sto_key : STO keyLt := sto_lex sto_bool (sto_lex sto_int (sto_lex sto_bytes sto_nat))
def Keys.lt (K : Keys) (i k : Nat) : Bool := if K.ak i ≠ K.ak k then K.ak k else if K.si i ≠ K.si k then decide (K.si i < K.si k) else if K.nm i ≠ K.nm k then Op.bytesLess (K.nm i) (K.nm k) else decide (i < k)
theorem Keys.lt_iff (K : Keys) (i k : Nat) : K.lt i k = true ↔ keyLt (K.key i) (K.key k) := by
  unfold Keys.lt keyLt Keys.key
  by_cases h1 : K.ak i = K.ak k
  · rw [if_neg (fun c => c h1)]
    by_cases h2 : K.si i = K.si k
    · rw [if_neg (fun c => c h2)]
      by_cases h3 : K.nm i = K.nm k
      · rw [if_neg (fun c => c h3)]
        simp [h1, h2, h3, bytes_irr]
      · rw [if_pos h3]
        simp [h1, h2, h3]
    · rw [if_pos h2]
      simp [h1, h2]
  · rw [if_pos h1]
    simp only [h1, false_and, or_false]
    generalize K.ak i = a at h1 ⊢
    generalize K.ak k = b at h1 ⊢
    cases a <;> cases b <;> simp at *
theorem Keys.irr (K : Keys) (i : Nat) : K.lt i i = false := by
  cases h : K.lt i i with
  | false => rfl
  | true => exact absurd ((K.lt_iff i i).1 h) (sto_key.irr _)
theorem Keys.tr (K : Keys) {i j k : Nat} (h1 : K.lt i j = true) (h2 : K.lt j k = true) : K.lt i k = true :=
  (K.lt_iff i k).2 (sto_key.tr _ _ _ ((K.lt_iff i j).1 h1) ((K.lt_iff j k).1 h2))
theorem Keys.tot (K : Keys) {i j : Nat} (h1 : K.lt i j = false) (h2 : K.lt j i = false) : i = j := by
  have := sto_key.tot (K.key i) (K.key j) (fun c => by rw [(K.lt_iff i j).2 c] at h1; cases h1) (fun c => by rw [(K.lt_iff j i).2 c] at h2; cases h2)
  exact congrArg (·.2.2.2) this
theorem Keys.asym (K : Keys) {i j : Nat} (h : K.lt i j = true) : K.lt j i = false := by
  cases h2 : K.lt j i with
  | false => rfl
  | true =>
    have := K.tr h h2
    rw [K.irr] at this
    cases this
theorem Keys.swo (K : Keys) : SWO K.lt where
  irrefl := K.irr
  trans _ _ _ h1 h2 := K.tr h1 h2
  ntrans x y z h1 h2 := by
    cases h3 : K.lt x z with
    | false => rfl
    | true =>
      cases h4 : K.lt y x with
      | true =>
        have := K.tr h4 h3
        rw [h2] at this; cases this
      | false =>
        have e := K.tot h1 h4
        subst e
        rw [h2] at h3; cases h3

/-! ### Put in at its place, one by one -/
def Keys.put (K : Keys) (out : List Nat) (i : Nat) : List Nat := out.takeWhile (fun x => K.lt x i) ++ i :: out.dropWhile (fun x => K.lt x i)
theorem put_perm (K : Keys) (out : List Nat) (i : Nat) : (K.put out i).Perm (i :: out) := by
  unfold Keys.put
  have h := List.perm_middle (a := i) (l₁ := out.takeWhile (fun x => K.lt x i)) (l₂ := out.dropWhile (fun x => K.lt x i))
  rwa [List.takeWhile_append_dropWhile] at h
theorem take_lt (K : Keys) (i : Nat) : ∀ (out : List Nat), ∀ x ∈ out.takeWhile (fun x => K.lt x i), K.lt x i = true
  | [], x, h => by cases h
  | a :: l, x, h => by
    rw [List.takeWhile_cons] at h
    split at h
    · rcases List.mem_cons.1 h with rfl | h
      · assumption
      · exact take_lt K i l x h
    · cases h
theorem drop_ge (K : Keys) (i : Nat) : ∀ (out : List Nat), out.Pairwise (fun x y => K.lt y x = false) → ∀ x ∈ out.dropWhile (fun x => K.lt x i), K.lt x i = false
  | [], _, x, h => by cases h
  | a :: l, hp, x, h => by
    rw [List.dropWhile_cons] at h
    have hp' := List.pairwise_cons.1 hp
    split at h
    · exact drop_ge K i l hp'.2 x h
    · rename_i ha
      rcases List.mem_cons.1 h with rfl | h
      · simpa using ha
      · exact K.swo.ntrans _ _ _ (hp'.1 x h) (by simpa using ha)
theorem put_sorted (K : Keys) {out : List Nat} (i : Nat) (hp : out.Pairwise (fun x y => K.lt y x = false)) : (K.put out i).Pairwise (fun x y => K.lt y x = false) := by
  unfold Keys.put
  have hsp : (out.takeWhile (fun x => K.lt x i) ++ out.dropWhile (fun x => K.lt x i)).Pairwise (fun x y => K.lt y x = false) := by rw [List.takeWhile_append_dropWhile]; exact hp
  obtain ⟨h1, h2, h3⟩ := List.pairwise_append.1 hsp
  refine List.pairwise_append.2 ⟨h1, List.pairwise_cons.2 ⟨fun x hx => drop_ge K i out hp x hx, h2⟩, fun x hx y hy => ?_⟩
  rcases List.mem_cons.1 hy with rfl | hy
  · exact K.asym (take_lt K _ out x hx)
  · exact h3 x hx y hy
def Keys.rank (K : Keys) (on : List Nat) : List Nat := on.foldl K.put []
theorem foldl_perm (K : Keys) : ∀ (on out : List Nat), (on.foldl K.put out).Perm (on ++ out)
  | [], out => List.Perm.refl _
  | i :: on, out => by
    rw [List.foldl_cons]
    refine (foldl_perm K on _).trans ?_
    refine ((put_perm K out i).append_left on).trans ?_
    exact List.perm_middle
theorem foldl_sorted (K : Keys) : ∀ (on out : List Nat), out.Pairwise (fun x y => K.lt y x = false) → (on.foldl K.put out).Pairwise (fun x y => K.lt y x = false)
  | [], _, h => h
  | i :: on, _, h => foldl_sorted K on _ (put_sorted K i h)
theorem sorted_one (K : Keys) : ∀ (l m : List Nat), l.Perm m → l.Pairwise (fun x y => K.lt y x = false) → m.Pairwise (fun x y => K.lt y x = false) → l = m
  | [], m, hp, _, _ => (List.Perm.nil_eq hp)
  | a :: l, [], hp, _, _ => by have := hp.length_eq; simp at this
  | a :: l, b :: m, hp, h1, h2 => by
    obtain ⟨h1a, h1b⟩ := List.pairwise_cons.1 h1
    obtain ⟨h2a, h2b⟩ := List.pairwise_cons.1 h2
    have e : a = b := by
      have ha : a ∈ b :: m := hp.mem_iff.1 List.mem_cons_self
      have hb : b ∈ a :: l := hp.mem_iff.2 List.mem_cons_self
      rcases List.mem_cons.1 ha with e | ha
      · exact e
      · rcases List.mem_cons.1 hb with e | hb
        · exact e.symm
        · exact K.tot (h2a a ha) (h1a b hb)
    subst e
    rw [sorted_one K l m (List.Perm.cons_inv hp) h1b h2b]
theorem rank_sort (K : Keys) (on : List Nat) : K.rank on = on.mergeSort fun x y => !K.lt y x := by
  refine sorted_one K _ _ ?_ (foldl_sorted K on [] List.Pairwise.nil) ?_
  · have := foldl_perm K on []
    rw [List.append_nil] at this
    exact this.trans (List.mergeSort_perm on _).symm
  · have := List.pairwise_mergeSort (le := fun x y => !K.lt y x) (fun a b c h1 h2 => by
      simp only [Bool.not_eq_true'] at *
      exact K.swo.ntrans _ _ _ h2 h1) (fun a b => by
      cases h : K.lt b a with
      | false => simp
      | true => simp [K.asym h]) on
    exact this.imp (fun h => by simpa using h)

/-! ### What the program's comparison says -/
def cmp3 {α : Type} [DecidableEq α] (lt : α → α → Bool) (x y : α) : Int := if lt x y = true then -1 else if lt y x = true then 1 else 0
def or4 (a b c d : Int) : Int := if a ≠ 0 then a else if b ≠ 0 then b else if c ≠ 0 then c else d
def Keys.cf (K : Keys) (i k : Nat) : Int := or4 (cmp3 (fun a b => decide (a < b)) (if K.ak i then 1 else 0 : Int) (if K.ak k then 1 else 0)) (cmp3 (fun a b => decide (a < b)) (K.si i) (K.si k)) (cmp3 Op.bytesLess (K.nm i) (K.nm k)) (cmp3 (fun a b => decide (a < b)) (i : Int) (k : Int))
theorem cf_lt (K : Keys) (i k : Nat) : Go.Proofs.ltOf K.cf i k = K.lt i k := by
  unfold Go.Proofs.ltOf Keys.cf Keys.lt or4
  generalize hA : cmp3 (fun a b => decide (a < b)) (if K.ak i = true then 1 else 0 : Int) (if K.ak k = true then 1 else 0) = A
  generalize hB : cmp3 (fun a b => decide (a < b)) (K.si i) (K.si k) = B
  generalize hC : cmp3 Op.bytesLess (K.nm i) (K.nm k) = C
  by_cases h1 : K.ak i = K.ak k
  · have a0 : A = 0 := by rw [← hA, h1]; simp [cmp3]
    have k1 : ¬ (K.ak i ≠ K.ak k) := fun c => c h1
    have g1 : ¬ (A ≠ 0) := fun c => c a0
    rw [if_neg k1, if_neg g1]
    by_cases h2 : K.si i = K.si k
    · have b0 : B = 0 := by rw [← hB, h2]; simp [cmp3]
      have k2 : ¬ (K.si i ≠ K.si k) := fun c => c h2
      have g2 : ¬ (B ≠ 0) := fun c => c b0
      rw [if_neg k2, if_neg g2]
      by_cases h3 : K.nm i = K.nm k
      · have c0 : C = 0 := by rw [← hC, h3]; simp [cmp3, bytes_irr]
        have k3 : ¬ (K.nm i ≠ K.nm k) := fun c => c h3
        have g3 : ¬ (C ≠ 0) := fun c => c c0
        rw [if_neg k3, if_neg g3]
        unfold cmp3
        by_cases h : i < k
        · simp [h]
        · by_cases h' : k < i
          · simp [h, h']
          · simp [h, h']
      · have hc : C ≠ 0 := by
          rw [← hC]
          unfold cmp3
          cases e1 : Op.bytesLess (K.nm i) (K.nm k) with
          | true => simp
          | false =>
            cases e2 : Op.bytesLess (K.nm k) (K.nm i) with
            | true => simp
            | false => exact absurd (bytes_tot _ _ e1 e2) h3
        rw [if_pos h3, if_pos hc, ← hC]
        unfold cmp3
        cases e1 : Op.bytesLess (K.nm i) (K.nm k) with
        | true => simp
        | false =>
          cases e2 : Op.bytesLess (K.nm k) (K.nm i) with
          | true => simp
          | false => simp
    · have hc : B ≠ 0 := by
        rw [← hB]
        unfold cmp3
        by_cases h : K.si i < K.si k
        · simp [h]
        · have h' : K.si k < K.si i := by omega
          simp [h, h']
      rw [if_pos h2, if_pos hc, ← hB]
      unfold cmp3
      by_cases h : K.si i < K.si k
      · simp [h]
      · have h' : K.si k < K.si i := by omega
        simp [h, h']
  · have hc : A ≠ 0 := by
      rw [← hA]
      generalize K.ak i = a at h1 ⊢
      generalize K.ak k = b at h1 ⊢
      cases a <;> cases b <;> simp [cmp3] at *
    rw [if_pos h1, if_pos hc, ← hA]
    generalize K.ak i = a at h1 ⊢
    generalize K.ak k = b at h1 ⊢
    cases a <;> cases b <;> simp [cmp3] at *
end Go.Proofs.YtphgcgggbbcjgaaDoor

/- What is compared when alarms are ranked: the walk keeps account of draws. -/
namespace Go.Proofs.YtphgcgggbbcjgaaDoor
open Go.RowKit Go.Dl
attribute [local irreducible] Tri SCall DFun QSem PSem PCall GCall MCall Round Weak dloadE OW DWl Tells IntKind.wrap Retold ESem

local instance drGlob : Inhabited GlobS := ⟨⟨fun _ => True, fun _ h => h, true⟩⟩
theorem or_at {α : Type} {l : List α} {d : α} {i : Nat} (h : i < l.length) : l.drop i = l.getD i d :: l.drop (i + 1) := by
  rw [List.getD_eq_getElem?_getD, List.getElem?_eq_getElem h]; exact List.drop_eq_getElem_cons h
def orL : List Int → Int
  | [] => 0
  | x :: t => if (x != 0) = true then x else orL t
theorem or_yes {l : List Int} {i : Nat} (h : i < l.length) (e : (l.getD i 0 != 0) = true) : orL (l.drop i) = l.getD i 0 := by
  rw [or_at (d := 0) h, orL, if_pos e]
theorem or_no {l : List Int} {i : Nat} (h : i < l.length) (e : (l.getD i 0 != 0) = false) : orL (l.drop i) = orL (l.drop (i + 1)) := by
  rw [or_at (d := 0) h, orL, if_neg (by rw [e]; decide)]
theorem or_end {l : List Int} {i : Nat} (h : l.length ≤ i) : orL (l.drop i) = 0 := by
  rw [List.drop_of_length_le h]; rfl
theorem or_succ {k n : Nat} (h : k < n) (hn : n ≤ 9223372036854775807) : IntKind.i64.wrap ((k : Int) + 1) = ((k + 1 : Nat) : Int) := by
  have : IntKind.i64.wrap ((k + 1 : Nat) : Int) = ((k + 1 : Nat) : Int) := by
    simp [IntKind.wrap, IntKind.bits, IntKind.signed]; omega
  simpa using this
theorem or_lt {k : Nat} {α : Type} {f : α → List DV} {l : List α} (h : decide ((k : Int) < ((l.map f).length : Nat)) = true) : k < l.length := by simpa using h
theorem or_ge {k : Nat} {α : Type} {f : α → List DV} {l : List α} (h : decide ((k : Int) < ((l.map f).length : Nat)) = false) : l.length ≤ k := by simpa using h
def i1D (x : Int) : List DV := [(DV.v (Value.int IntKind.i64 (x)))]
def lstI (l : List Int) : DV := .lst 1 (l.map i1D)
def orSt (l : List Int) (i : Nat) : St := ⟨0, tmOf [(3, (DV.v (Value.int IntKind.i64 (0)))), (6, lstI l), (7, (DV.v (Value.int IntKind.i64 ((l.map i1D).length)))), (8, (DV.v (Value.int IntKind.i64 (i))))], .of [] 0⟩
set_option maxRecDepth 20000 in
theorem or42_D (l : List Int) : DPure Tryd.prog 42 [lstI l] ((DV.v (Value.int IntKind.i64 ((orL l))))) := by
  refine DFun.bound 0 rfl fun ha => ?_
  have ha : l.length ≤ 9223372036854775807 := by simpa [maxLen] using ha
  refine DFun.body Tryd.func42 rfl (by kernel_rfl) ?_
  repeat' (first | with_reducible rfl | ((conv => whnf); first | refine And.intro ?_ ?_ | (intro h; first | exact Bool.noConfusion h | with_reducible exact h | (have ht : true = true := h; clear ht h) | skip) | ((with_reducible refine DWl.mark ?_); repeat' (first | refine DWl.cons ?_ ?_ | exact DWl.nil | exact DW.same _ rfl | exact DW.ref _ _ _ rfl | exact DW.arr _ _ _ rfl | exact DW.sub _ _ _ _ rfl | exact DW.nilLst _ | refine DW.aggl ?_ | refine DW.tupl ?_ | refine DW.clol ?_ ?_ | refine DW.int ?_ | refine DW.bool ?_ | refine DW.str ?_)) | ((with_reducible refine Tri.mark ?_); first | refine Tri.loop (orSt l) (fun i => i ≤ l.length ∧ orL l = orL (l.drop i)) (fun i => l.length - i) (0) (by kernel_rfl) (Weak.list [] [] ?_ ?_ ?_) ?_ ?_) | ((with_reducible refine Round.mark ?_); first | refine Round.go ((· + 1)) ?_ ?_ (Weak.list [] [] ?_ ?_ ?_)) | refine dloadE_map (0) ?_ ?_ | refine dcell_ok rfl ?_ | refine AppC.new ?_))
  all_goals first | (with_reducible refine enters_mark ?_; kernel_rfl) | (with_reducible refine boolT_mark ?_; kernel_rfl) | rfl | trivial | assumption | exact Nat.le_of_ble_eq_true rfl | (show entersB _ _ = true; kernel_rfl) | exact DW.same _ rfl | exact DW.ref _ _ _ rfl | exact DW.arr _ _ _ rfl | refine DW.int ?_ | refine dvb ?_ | refine dvi ?_ | exact OW.cells rfl rfl (DWl.same rfl) | skip
  all_goals repeat' (first | exact OW.cells rfl rfl (DWl.same rfl) | refine OW.cells rfl rfl ?_ | exact DW.nilArr _ rfl | refine DW.clol ?_ ?_ | refine DWl.cons ?_ ?_ | exact DWl.nil | exact DW.same _ rfl | exact DW.ref _ _ _ rfl | exact DW.arr _ _ _ rfl | refine DW.int ?_)
  all_goals try (simp_all; done)
  all_goals try (simp at *; omega)
  · rename_i i hi e0
    exact (hi.2.trans (or_yes (or_lt e0) h)).symm
  · rename_i i hi e0
    exact hi.2.trans (or_no (or_lt e0) h)
  · rename_i i hi e0
    exact or_succ (or_lt e0) ha
  · rename_i i hi
    exact (hi.2.trans (or_end (or_ge h))).symm
theorem nan63_D (x : Int) : DPure Tryd.prog 63 [(DV.v (Value.int IntKind.i64 (x)))] ((DV.v (Value.bool (false)))) := by
  refine DFun.data (DFun.body Tryd.func63 rfl (by kernel_rfl) ?_)
  repeat' (first | with_reducible rfl | ((conv => whnf); first | refine And.intro ?_ ?_ | (intro h; first | exact Bool.noConfusion h | with_reducible exact h | (have ht : true = true := h; clear ht h) | skip) | ((with_reducible refine DWl.mark ?_); repeat' (first | refine DWl.cons ?_ ?_ | exact DWl.nil | exact DW.same _ rfl | exact DW.ref _ _ _ rfl | exact DW.arr _ _ _ rfl | exact DW.sub _ _ _ _ rfl | exact DW.nilLst _ | refine DW.aggl ?_ | refine DW.tupl ?_ | refine DW.clol ?_ ?_ | refine DW.int ?_ | refine DW.bool ?_ | refine DW.str ?_)) | refine dcell_ok rfl ?_ | refine AppC.new ?_))
  all_goals first | (with_reducible refine enters_mark ?_; kernel_rfl) | (with_reducible refine boolT_mark ?_; kernel_rfl) | rfl | trivial | assumption | exact Nat.le_of_ble_eq_true rfl | (show entersB _ _ = true; kernel_rfl) | exact DW.same _ rfl | exact DW.ref _ _ _ rfl | exact DW.arr _ _ _ rfl | refine DW.int ?_ | refine dvb ?_ | refine dvi ?_ | exact OW.cells rfl rfl (DWl.same rfl) | exact Nat.zero_le _ | omega | skip
  all_goals repeat' (first | refine OW.cells rfl rfl ?_ | exact DW.nilArr _ rfl | refine DWl.cons ?_ ?_ | exact DWl.nil | exact DW.same _ rfl | exact DW.ref _ _ _ rfl | exact DW.arr _ _ _ rfl | exact DW.sub _ _ _ _ rfl | exact DW.nilLst _ | refine DW.aggl ?_ | refine DW.tupl ?_ | refine DW.clol ?_ ?_)
  all_goals try ((conv => whnf); with_reducible first | refine Round.mark ?_ | refine Tells.mark ?_ | refine Retold.mark ?_)
  all_goals try first | (show (_ : Bool) = _; simp_all; done) | (show (_ : Int) < _; simp at *; omega) | (show (_ : Int) ≤ _; simp at *; omega) | (show (_ : Nat) < _; simp at *; omega) | (show (_ : Nat) ≤ _; simp at *; omega)
  conv => whnf
  exact Tells.mk (DW.bool (by simp))
theorem nan64_D (x : Int) : DPure Tryd.prog 64 [(DV.v (Value.int IntKind.i64 (x)))] ((DV.v (Value.bool (false)))) := by
  refine DFun.data (DFun.body Tryd.func64 rfl (by kernel_rfl) ?_)
  repeat' (first | with_reducible rfl | ((conv => whnf); first | refine And.intro ?_ ?_ | (intro h; first | exact Bool.noConfusion h | with_reducible exact h | (have ht : true = true := h; clear ht h) | skip) | ((with_reducible refine DWl.mark ?_); repeat' (first | refine DWl.cons ?_ ?_ | exact DWl.nil | exact DW.same _ rfl | exact DW.ref _ _ _ rfl | exact DW.arr _ _ _ rfl | exact DW.sub _ _ _ _ rfl | exact DW.nilLst _ | refine DW.aggl ?_ | refine DW.tupl ?_ | refine DW.clol ?_ ?_ | refine DW.int ?_ | refine DW.bool ?_ | refine DW.str ?_)) | refine dcell_ok rfl ?_ | refine AppC.new ?_))
  all_goals first | (with_reducible refine enters_mark ?_; kernel_rfl) | (with_reducible refine boolT_mark ?_; kernel_rfl) | rfl | trivial | assumption | exact Nat.le_of_ble_eq_true rfl | (show entersB _ _ = true; kernel_rfl) | exact DW.same _ rfl | exact DW.ref _ _ _ rfl | exact DW.arr _ _ _ rfl | refine DW.int ?_ | refine dvb ?_ | refine dvi ?_ | exact OW.cells rfl rfl (DWl.same rfl) | exact Nat.zero_le _ | omega | skip
  all_goals repeat' (first | refine OW.cells rfl rfl ?_ | exact DW.nilArr _ rfl | refine DWl.cons ?_ ?_ | exact DWl.nil | exact DW.same _ rfl | exact DW.ref _ _ _ rfl | exact DW.arr _ _ _ rfl | exact DW.sub _ _ _ _ rfl | exact DW.nilLst _ | refine DW.aggl ?_ | refine DW.tupl ?_ | refine DW.clol ?_ ?_)
  all_goals try ((conv => whnf); with_reducible first | refine Round.mark ?_ | refine Tells.mark ?_ | refine Retold.mark ?_)
  all_goals try first | (show (_ : Bool) = _; simp_all; done) | (show (_ : Int) < _; simp at *; omega) | (show (_ : Int) ≤ _; simp at *; omega) | (show (_ : Nat) < _; simp at *; omega) | (show (_ : Nat) ≤ _; simp at *; omega)
  conv => whnf
  exact Tells.mk (DW.bool (by simp))
theorem by_self (s : ByteArray) : (s != s) = false := by
  have : (s == s) = true := by
    obtain ⟨a⟩ := s
    show (a == a) = true
    simp
  simp [bne, this]
theorem nan65_D (x : ByteArray) : DPure Tryd.prog 65 [(DV.v (Value.string (x)))] ((DV.v (Value.bool (false)))) := by
  refine DFun.data (DFun.body Tryd.func65 rfl (by kernel_rfl) ?_)
  repeat' (first | with_reducible rfl | ((conv => whnf); first | refine And.intro ?_ ?_ | (intro h; first | exact Bool.noConfusion h | with_reducible exact h | (have ht : true = true := h; clear ht h) | skip) | ((with_reducible refine DWl.mark ?_); repeat' (first | refine DWl.cons ?_ ?_ | exact DWl.nil | exact DW.same _ rfl | exact DW.ref _ _ _ rfl | exact DW.arr _ _ _ rfl | exact DW.sub _ _ _ _ rfl | exact DW.nilLst _ | refine DW.aggl ?_ | refine DW.tupl ?_ | refine DW.clol ?_ ?_ | refine DW.int ?_ | refine DW.bool ?_ | refine DW.str ?_)) | refine dcell_ok rfl ?_ | refine AppC.new ?_))
  all_goals first | (with_reducible refine enters_mark ?_; kernel_rfl) | (with_reducible refine boolT_mark ?_; kernel_rfl) | rfl | trivial | assumption | exact Nat.le_of_ble_eq_true rfl | (show entersB _ _ = true; kernel_rfl) | exact DW.same _ rfl | exact DW.ref _ _ _ rfl | exact DW.arr _ _ _ rfl | refine DW.int ?_ | refine dvb ?_ | refine dvi ?_ | exact OW.cells rfl rfl (DWl.same rfl) | exact Nat.zero_le _ | omega | skip
  all_goals repeat' (first | refine OW.cells rfl rfl ?_ | exact DW.nilArr _ rfl | refine DWl.cons ?_ ?_ | exact DWl.nil | exact DW.same _ rfl | exact DW.ref _ _ _ rfl | exact DW.arr _ _ _ rfl | exact DW.sub _ _ _ _ rfl | exact DW.nilLst _ | refine DW.aggl ?_ | refine DW.tupl ?_ | refine DW.clol ?_ ?_)
  all_goals try ((conv => whnf); with_reducible first | refine Round.mark ?_ | refine Tells.mark ?_ | refine Retold.mark ?_)
  all_goals try first | (show (_ : Bool) = _; simp_all; done) | (show (_ : Int) < _; simp at *; omega) | (show (_ : Int) ≤ _; simp at *; omega) | (show (_ : Nat) < _; simp at *; omega) | (show (_ : Nat) ≤ _; simp at *; omega)
  conv => whnf
  exact Tells.mk (DW.bool (by_self x))
theorem cmp43_D (x y : Int) : DPure Tryd.prog 43 [(DV.v (Value.int IntKind.i64 (x))), (DV.v (Value.int IntKind.i64 (y)))] ((DV.v (Value.int IntKind.i64 ((cmp3 (fun a b => decide (a < b)) x y))))) := by
  refine DFun.data (DFun.body Tryd.func43 rfl (by kernel_rfl) ?_)
  repeat' (first | with_reducible rfl | ((conv => whnf); first | refine And.intro ?_ ?_ | (intro h; first | exact Bool.noConfusion h | with_reducible exact h | (have ht : true = true := h; clear ht h) | skip) | ((with_reducible refine DWl.mark ?_); repeat' (first | refine DWl.cons ?_ ?_ | exact DWl.nil | exact DW.same _ rfl | exact DW.ref _ _ _ rfl | exact DW.arr _ _ _ rfl | exact DW.sub _ _ _ _ rfl | exact DW.nilLst _ | refine DW.aggl ?_ | refine DW.tupl ?_ | refine DW.clol ?_ ?_ | refine DW.int ?_ | refine DW.bool ?_ | refine DW.str ?_)) | ((with_reducible refine SCall.mark ?_); first | refine SCall.data (nan63_D _) rfl rfl ?_ | refine SCall.scal (nan63_D _) rfl rfl ?_) | ((with_reducible refine PCall.mark ?_); first | refine PCall.mk (nan63_D _) rfl rfl ?_) | ((with_reducible refine GCall.mark ?_); first | refine GCall.data (fun _ => nan63_D _) rfl rfl ?_ | refine GCall.scal (fun _ => nan63_D _) rfl rfl ?_) | ((with_reducible refine MCall.mark ?_); first | refine MCall.data (fun _ => nan63_D _) rfl rfl ?_ | refine MCall.plain (PCall.mk (nan63_D _) rfl rfl ?_)) | refine dcell_ok rfl ?_ | refine AppC.new ?_))
  all_goals first | (with_reducible refine enters_mark ?_; kernel_rfl) | (with_reducible refine boolT_mark ?_; kernel_rfl) | rfl | trivial | assumption | exact Nat.le_of_ble_eq_true rfl | (show entersB _ _ = true; kernel_rfl) | exact DW.same _ rfl | exact DW.ref _ _ _ rfl | exact DW.arr _ _ _ rfl | refine DW.int ?_ | refine dvb ?_ | refine dvi ?_ | exact OW.cells rfl rfl (DWl.same rfl) | exact Nat.zero_le _ | omega | skip
  all_goals repeat' (first | refine OW.cells rfl rfl ?_ | exact DW.nilArr _ rfl | refine DWl.cons ?_ ?_ | exact DWl.nil | exact DW.same _ rfl | exact DW.ref _ _ _ rfl | exact DW.arr _ _ _ rfl | exact DW.sub _ _ _ _ rfl | exact DW.nilLst _ | refine DW.aggl ?_ | refine DW.tupl ?_ | refine DW.clol ?_ ?_)
  all_goals try ((conv => whnf); with_reducible first | refine Round.mark ?_ | refine Tells.mark ?_ | refine Retold.mark ?_)
  all_goals try first | (show (_ : Bool) = _; simp_all; done) | (show (_ : Int) < _; simp at *; omega) | (show (_ : Int) ≤ _; simp at *; omega) | (show (_ : Nat) < _; simp at *; omega) | (show (_ : Nat) ≤ _; simp at *; omega)
  all_goals (conv => whnf)
  all_goals (refine Tells.mk (DW.int ?_); simp_all [cmp3]; try (rw [if_neg (by omega), if_neg (by omega)]))
theorem cmp45_D (x y : Int) : DPure Tryd.prog 45 [(DV.v (Value.int IntKind.i64 (x))), (DV.v (Value.int IntKind.i64 (y)))] ((DV.v (Value.int IntKind.i64 ((cmp3 (fun a b => decide (a < b)) x y))))) := by
  refine DFun.data (DFun.body Tryd.func45 rfl (by kernel_rfl) ?_)
  repeat' (first | with_reducible rfl | ((conv => whnf); first | refine And.intro ?_ ?_ | (intro h; first | exact Bool.noConfusion h | with_reducible exact h | (have ht : true = true := h; clear ht h) | skip) | ((with_reducible refine DWl.mark ?_); repeat' (first | refine DWl.cons ?_ ?_ | exact DWl.nil | exact DW.same _ rfl | exact DW.ref _ _ _ rfl | exact DW.arr _ _ _ rfl | exact DW.sub _ _ _ _ rfl | exact DW.nilLst _ | refine DW.aggl ?_ | refine DW.tupl ?_ | refine DW.clol ?_ ?_ | refine DW.int ?_ | refine DW.bool ?_ | refine DW.str ?_)) | ((with_reducible refine SCall.mark ?_); first | refine SCall.data (nan64_D _) rfl rfl ?_ | refine SCall.scal (nan64_D _) rfl rfl ?_) | ((with_reducible refine PCall.mark ?_); first | refine PCall.mk (nan64_D _) rfl rfl ?_) | ((with_reducible refine GCall.mark ?_); first | refine GCall.data (fun _ => nan64_D _) rfl rfl ?_ | refine GCall.scal (fun _ => nan64_D _) rfl rfl ?_) | ((with_reducible refine MCall.mark ?_); first | refine MCall.data (fun _ => nan64_D _) rfl rfl ?_ | refine MCall.plain (PCall.mk (nan64_D _) rfl rfl ?_)) | refine dcell_ok rfl ?_ | refine AppC.new ?_))
  all_goals first | (with_reducible refine enters_mark ?_; kernel_rfl) | (with_reducible refine boolT_mark ?_; kernel_rfl) | rfl | trivial | assumption | exact Nat.le_of_ble_eq_true rfl | (show entersB _ _ = true; kernel_rfl) | exact DW.same _ rfl | exact DW.ref _ _ _ rfl | exact DW.arr _ _ _ rfl | refine DW.int ?_ | refine dvb ?_ | refine dvi ?_ | exact OW.cells rfl rfl (DWl.same rfl) | exact Nat.zero_le _ | omega | skip
  all_goals repeat' (first | refine OW.cells rfl rfl ?_ | exact DW.nilArr _ rfl | refine DWl.cons ?_ ?_ | exact DWl.nil | exact DW.same _ rfl | exact DW.ref _ _ _ rfl | exact DW.arr _ _ _ rfl | exact DW.sub _ _ _ _ rfl | exact DW.nilLst _ | refine DW.aggl ?_ | refine DW.tupl ?_ | refine DW.clol ?_ ?_)
  all_goals try ((conv => whnf); with_reducible first | refine Round.mark ?_ | refine Tells.mark ?_ | refine Retold.mark ?_)
  all_goals try first | (show (_ : Bool) = _; simp_all; done) | (show (_ : Int) < _; simp at *; omega) | (show (_ : Int) ≤ _; simp at *; omega) | (show (_ : Nat) < _; simp at *; omega) | (show (_ : Nat) ≤ _; simp at *; omega)
  all_goals (conv => whnf)
  all_goals (refine Tells.mk (DW.int ?_); simp_all [cmp3]; try (rw [if_neg (by omega), if_neg (by omega)]))
theorem list_eq {x y : ByteArray} (h : x.toList = y.toList) : x = y := by
  obtain ⟨a⟩ := x
  obtain ⟨b⟩ := y
  rw [Lib.toList_data, Lib.toList_data] at h
  exact congrArg ByteArray.mk (Array.toList_inj.1 h)
theorem gt_yes {x y : ByteArray} (h1 : Op.bytesLess x.toList y.toList = false) (h2 : (!(Op.bytesLess x.toList y.toList || x == y)) = true) : cmp3 Op.bytesLess x.toList y.toList = 1 := by
  unfold cmp3
  rw [if_neg (by rw [h1]; decide), if_pos]
  cases h3 : Op.bytesLess y.toList x.toList with
  | true => rfl
  | false =>
    have e := list_eq (bytes_tot _ _ h1 h3)
    subst e
    have := by_self x
    simp only [bne, Bool.not_eq_eq_eq_not, Bool.not_false] at this
    rw [this] at h2
    simp at h2
theorem gt_no {x y : ByteArray} (h1 : Op.bytesLess x.toList y.toList = false) (h2 : (!(Op.bytesLess x.toList y.toList || x == y)) = false) : cmp3 Op.bytesLess x.toList y.toList = 0 := by
  have e : (x == y) = true := by simpa [h1] using h2
  have e : x = y := by
    obtain ⟨a⟩ := x
    obtain ⟨b⟩ := y
    have e : (a == b) = true := e
    simp at e
    rw [e]
  subst e
  unfold cmp3
  rw [if_neg (by rw [bytes_irr]; decide), if_neg (by rw [bytes_irr]; decide)]
theorem gt_less {x y : ByteArray} (h1 : Op.bytesLess x.toList y.toList = true) : cmp3 Op.bytesLess x.toList y.toList = -1 := by
  unfold cmp3
  rw [if_pos h1]
theorem cmp46_D (x y : ByteArray) : DPure Tryd.prog 46 [(DV.v (Value.string (x))), (DV.v (Value.string (y)))] ((DV.v (Value.int IntKind.i64 ((cmp3 Op.bytesLess x.toList y.toList))))) := by
  refine DFun.data (DFun.body Tryd.func46 rfl (by kernel_rfl) ?_)
  repeat' (first | with_reducible rfl | ((conv => whnf); first | refine And.intro ?_ ?_ | (intro h; first | exact Bool.noConfusion h | with_reducible exact h | (have ht : true = true := h; clear ht h) | skip) | ((with_reducible refine DWl.mark ?_); repeat' (first | refine DWl.cons ?_ ?_ | exact DWl.nil | exact DW.same _ rfl | exact DW.ref _ _ _ rfl | exact DW.arr _ _ _ rfl | exact DW.sub _ _ _ _ rfl | exact DW.nilLst _ | refine DW.aggl ?_ | refine DW.tupl ?_ | refine DW.clol ?_ ?_ | refine DW.int ?_ | refine DW.bool ?_ | refine DW.str ?_)) | ((with_reducible refine SCall.mark ?_); first | refine SCall.data (nan65_D _) rfl rfl ?_ | refine SCall.scal (nan65_D _) rfl rfl ?_) | ((with_reducible refine PCall.mark ?_); first | refine PCall.mk (nan65_D _) rfl rfl ?_) | ((with_reducible refine GCall.mark ?_); first | refine GCall.data (fun _ => nan65_D _) rfl rfl ?_ | refine GCall.scal (fun _ => nan65_D _) rfl rfl ?_) | ((with_reducible refine MCall.mark ?_); first | refine MCall.data (fun _ => nan65_D _) rfl rfl ?_ | refine MCall.plain (PCall.mk (nan65_D _) rfl rfl ?_)) | refine dcell_ok rfl ?_ | refine AppC.new ?_))
  all_goals first | (with_reducible refine enters_mark ?_; kernel_rfl) | (with_reducible refine boolT_mark ?_; kernel_rfl) | rfl | trivial | assumption | exact Nat.le_of_ble_eq_true rfl | (show entersB _ _ = true; kernel_rfl) | exact DW.same _ rfl | exact DW.ref _ _ _ rfl | exact DW.arr _ _ _ rfl | refine DW.int ?_ | refine dvb ?_ | refine dvi ?_ | exact OW.cells rfl rfl (DWl.same rfl) | exact Nat.zero_le _ | omega | skip
  all_goals repeat' (first | refine OW.cells rfl rfl ?_ | exact DW.nilArr _ rfl | refine DWl.cons ?_ ?_ | exact DWl.nil | exact DW.same _ rfl | exact DW.ref _ _ _ rfl | exact DW.arr _ _ _ rfl | exact DW.sub _ _ _ _ rfl | exact DW.nilLst _ | refine DW.aggl ?_ | refine DW.tupl ?_ | refine DW.clol ?_ ?_)
  all_goals try ((conv => whnf); with_reducible first | refine Round.mark ?_ | refine Tells.mark ?_ | refine Retold.mark ?_)
  all_goals try first | (show (_ : Bool) = _; simp_all; done) | (show (_ : Int) < _; simp at *; omega) | (show (_ : Int) ≤ _; simp at *; omega) | (show (_ : Nat) < _; simp at *; omega) | (show (_ : Nat) ≤ _; simp at *; omega)
  all_goals (conv => whnf)
  · exact Tells.mk (DW.int (gt_less ‹_›).symm)
  · exact Tells.mk (DW.int (gt_yes ‹_› ‹_›).symm)
  · exact Tells.mk (DW.int (gt_no ‹_› ‹_›).symm)
structure Gr where
  nm : ByteArray
  kind : Int
  low : Int
  high : Int
  hold : Int
  on : Bool
  run : Int
  has : Bool
  last : Int
  ak : Bool
  si : Int
def grV (g : Gr) (p : Int) : List Value := [.string g.nm, .int .i64 g.kind, .int .i64 g.low, .int .i64 g.high, .int .i64 g.hold, .bool g.on, .int .i64 g.run, .bool g.has, .int .i64 g.last, .bool g.ak, .int .i64 g.si, .int .i64 p]
def grD (g : Gr) (p : Int) : List DV := [(DV.v (Value.string (g.nm))), (DV.v (Value.int IntKind.i64 (g.kind))), (DV.v (Value.int IntKind.i64 (g.low))), (DV.v (Value.int IntKind.i64 (g.high))), (DV.v (Value.int IntKind.i64 (g.hold))), (DV.v (Value.bool (g.on))), (DV.v (Value.int IntKind.i64 (g.run))), (DV.v (Value.bool (g.has))), (DV.v (Value.int IntKind.i64 (g.last))), (DV.v (Value.bool (g.ak))), (DV.v (Value.int IntKind.i64 (g.si))), (DV.v (Value.int IntKind.i64 (p)))]
set_option maxRecDepth 20000 in
theorem acked44_D (g : Gr) (p : Int) : DPure Tryd.prog 44 [.agg (grD g p)] ((DV.v (Value.int IntKind.i64 ((if g.ak then 1 else 0))))) := by
  refine DFun.data (DFun.body Tryd.func44 rfl (by kernel_rfl) ?_)
  repeat' (first | with_reducible rfl | ((conv => whnf); first | refine And.intro ?_ ?_ | (intro h; first | exact Bool.noConfusion h | with_reducible exact h | (have ht : true = true := h; clear ht h) | skip) | ((with_reducible refine DWl.mark ?_); repeat' (first | refine DWl.cons ?_ ?_ | exact DWl.nil | exact DW.same _ rfl | exact DW.ref _ _ _ rfl | exact DW.arr _ _ _ rfl | exact DW.sub _ _ _ _ rfl | exact DW.nilLst _ | refine DW.aggl ?_ | refine DW.tupl ?_ | refine DW.clol ?_ ?_ | refine DW.int ?_ | refine DW.bool ?_ | refine DW.str ?_)) | refine dcell_ok rfl ?_ | refine AppC.new ?_))
  all_goals first | (with_reducible refine enters_mark ?_; kernel_rfl) | (with_reducible refine boolT_mark ?_; kernel_rfl) | rfl | trivial | assumption | exact Nat.le_of_ble_eq_true rfl | (show entersB _ _ = true; kernel_rfl) | exact DW.same _ rfl | exact DW.ref _ _ _ rfl | exact DW.arr _ _ _ rfl | refine DW.int ?_ | refine dvb ?_ | refine dvi ?_ | exact OW.cells rfl rfl (DWl.same rfl) | exact Nat.zero_le _ | omega | skip
  all_goals repeat' (first | refine OW.cells rfl rfl ?_ | exact DW.nilArr _ rfl | refine DWl.cons ?_ ?_ | exact DWl.nil | exact DW.same _ rfl | exact DW.ref _ _ _ rfl | exact DW.arr _ _ _ rfl | exact DW.sub _ _ _ _ rfl | exact DW.nilLst _ | refine DW.aggl ?_ | refine DW.tupl ?_ | refine DW.clol ?_ ?_)
  all_goals try ((conv => whnf); with_reducible first | refine Round.mark ?_ | refine Tells.mark ?_ | refine Retold.mark ?_)
  all_goals try first | (show (_ : Bool) = _; simp_all; done) | (show (_ : Int) < _; simp at *; omega) | (show (_ : Int) ≤ _; simp at *; omega) | (show (_ : Nat) < _; simp at *; omega) | (show (_ : Nat) ≤ _; simp at *; omega)
  all_goals (conv => whnf)
  · exact Tells.mk (DW.int (if_pos ‹_›).symm)
  · refine Tells.mk (DW.int ?_)
    rw [‹g.ak = false›]; rfl
attribute [local irreducible] orL cmp3
theorem i1_row (l : List Int) : ∀ r ∈ l.map i1D, r.length = 1 ∧ r.all isData1 = true := by
  intro r hr
  obtain ⟨x, _, rfl⟩ := List.mem_map.1 hr
  exact ⟨rfl, rfl⟩
theorem or42_M (l : List Int) : DPure Tryd.prog 42 [.lst 1 (l.map i1D)] ((DV.v (Value.int IntKind.i64 ((orL l))))) := or42_D l
def gOr (g h : Gr) (p q : Int) : List Int := [cmp3 (fun a b => decide (a < b)) (if g.ak then 1 else 0 : Int) (if h.ak then 1 else 0), cmp3 (fun a b => decide (a < b)) g.si h.si, cmp3 Op.bytesLess g.nm.toList h.nm.toList, cmp3 (fun a b => decide (a < b)) p q]
set_option maxRecDepth 20000 in
theorem cmp41_D (g h : Gr) (p q : Int) : DPure Tryd.prog 41 [.agg (grD g p), .agg (grD h q)] ((DV.v (Value.int IntKind.i64 ((orL (gOr g h p q)))))) := by
  refine DFun.data (DFun.body Tryd.func41 rfl (by kernel_rfl) ?_)
  repeat' (first | with_reducible rfl | ((conv => whnf); first | refine And.intro ?_ ?_ | (intro h; first | exact Bool.noConfusion h | with_reducible exact h | (have ht : true = true := h; clear ht h) | skip) | ((with_reducible refine DWl.mark ?_); repeat' (first | refine DWl.cons ?_ ?_ | exact DWl.nil | exact DW.same _ rfl | exact DW.ref _ _ _ rfl | exact DW.arr _ _ _ rfl | exact DW.sub _ _ _ _ rfl | exact DW.nilLst _ | refine DW.aggl ?_ | refine DW.tupl ?_ | refine DW.clol ?_ ?_ | exact DW.pubM rfl rfl rfl rfl (i1_row _) rfl | exact DW.pubG rfl rfl rfl rfl rfl (i1_row _) rfl | exact DW.pubM rfl (List.length_map _).symm rfl rfl (i1_row _) rfl | exact DW.pubG rfl (List.length_map _).symm rfl rfl rfl (i1_row _) rfl | refine DW.int ?_ | refine DW.bool ?_ | refine DW.str ?_)) | ((with_reducible refine SCall.mark ?_); first | refine SCall.data (acked44_D g p) rfl rfl ?_ | refine SCall.scal (acked44_D g p) rfl rfl ?_ | refine SCall.data (acked44_D h q) rfl rfl ?_ | refine SCall.scal (acked44_D h q) rfl rfl ?_ | refine SCall.data (cmp43_D _ _) rfl rfl ?_ | refine SCall.scal (cmp43_D _ _) rfl rfl ?_ | refine SCall.data (cmp45_D _ _) rfl rfl ?_ | refine SCall.scal (cmp45_D _ _) rfl rfl ?_ | refine SCall.data (cmp46_D _ _) rfl rfl ?_ | refine SCall.scal (cmp46_D _ _) rfl rfl ?_ | refine SCall.scalT (or42_M (gOr g h p q)) ?_ rfl ?_) | ((with_reducible refine PCall.mark ?_); first | refine PCall.mk (acked44_D g p) rfl rfl ?_ | refine PCall.mk (acked44_D h q) rfl rfl ?_ | refine PCall.mk (cmp43_D _ _) rfl rfl ?_ | refine PCall.mk (cmp45_D _ _) rfl rfl ?_ | refine PCall.mk (cmp46_D _ _) rfl rfl ?_ | refine PCall.tell (fun _ => or42_M (gOr g h p q)) ?_ rfl ?_) | ((with_reducible refine GCall.mark ?_); first | refine GCall.data (fun _ => acked44_D g p) rfl rfl ?_ | refine GCall.scal (fun _ => acked44_D g p) rfl rfl ?_ | refine GCall.data (fun _ => acked44_D h q) rfl rfl ?_ | refine GCall.scal (fun _ => acked44_D h q) rfl rfl ?_ | refine GCall.data (fun _ => cmp43_D _ _) rfl rfl ?_ | refine GCall.scal (fun _ => cmp43_D _ _) rfl rfl ?_ | refine GCall.data (fun _ => cmp45_D _ _) rfl rfl ?_ | refine GCall.scal (fun _ => cmp45_D _ _) rfl rfl ?_ | refine GCall.data (fun _ => cmp46_D _ _) rfl rfl ?_ | refine GCall.scal (fun _ => cmp46_D _ _) rfl rfl ?_ | refine GCall.scalT (fun _ => or42_M (gOr g h p q)) ?_ rfl ?_) | ((with_reducible refine MCall.mark ?_); first | refine MCall.data (fun _ => acked44_D g p) rfl rfl ?_ | refine MCall.plain (PCall.mk (acked44_D g p) rfl rfl ?_) | refine MCall.data (fun _ => acked44_D h q) rfl rfl ?_ | refine MCall.plain (PCall.mk (acked44_D h q) rfl rfl ?_) | refine MCall.data (fun _ => cmp43_D _ _) rfl rfl ?_ | refine MCall.plain (PCall.mk (cmp43_D _ _) rfl rfl ?_) | refine MCall.data (fun _ => cmp45_D _ _) rfl rfl ?_ | refine MCall.plain (PCall.mk (cmp45_D _ _) rfl rfl ?_) | refine MCall.data (fun _ => cmp46_D _ _) rfl rfl ?_ | refine MCall.plain (PCall.mk (cmp46_D _ _) rfl rfl ?_) | refine MCall.plain (PCall.tell (fun _ => or42_M (gOr g h p q)) ?_ rfl ?_)) | ((with_reducible refine Tri.mark ?_); first | (refine Tri.movesN [] [(true, 0), (true, 2), (true, 5), (true, 6), (true, 7), (true, 8), (true, 9), (true, 10), (true, 11), (true, 12), (true, 14), (true, 15), (true, 16), (true, 17), (true, 18), (true, 19), (true, 21), (true, 22), (true, 23), (true, 24), (false, 1), (false, 3), (false, 4), (false, 13), (false, 20), (false, 25), (false, 26), (false, 27), (false, 28)] ?_ (by kernel_rfl) ?_; rfl)) | refine dcell_ok rfl ?_ | refine AppC.new ?_))
  all_goals first | (with_reducible refine enters_mark ?_; kernel_rfl) | (with_reducible refine boolT_mark ?_; kernel_rfl) | rfl | trivial | assumption | exact Nat.le_of_ble_eq_true rfl | (show entersB _ _ = true; kernel_rfl) | exact DW.same _ rfl | exact DW.ref _ _ _ rfl | exact DW.arr _ _ _ rfl | refine DW.int ?_ | refine dvb ?_ | refine dvi ?_ | exact OW.cells rfl rfl (DWl.same rfl) | exact Nat.zero_le _ | omega | skip
  all_goals repeat' (first | refine OW.cells rfl rfl ?_ | exact DW.nilArr _ rfl | refine DWl.cons ?_ ?_ | exact DWl.nil | exact DW.same _ rfl | exact DW.ref _ _ _ rfl | exact DW.arr _ _ _ rfl | exact DW.sub _ _ _ _ rfl | exact DW.nilLst _ | refine DW.aggl ?_ | refine DW.tupl ?_ | refine DW.clol ?_ ?_ | exact DW.pubM rfl rfl rfl rfl (i1_row _) rfl | exact DW.pubG rfl rfl rfl rfl rfl (i1_row _) rfl | exact DW.pubM rfl (List.length_map _).symm rfl rfl (i1_row _) rfl | exact DW.pubG rfl (List.length_map _).symm rfl rfl rfl (i1_row _) rfl)
  all_goals try ((conv => whnf); with_reducible first | refine Round.mark ?_ | refine Tells.mark ?_ | refine Retold.mark ?_)
  all_goals try first | (show (_ : Bool) = _; simp_all; done) | (show (_ : Int) < _; simp at *; omega) | (show (_ : Int) ≤ _; simp at *; omega) | (show (_ : Nat) < _; simp at *; omega) | (show (_ : Nat) ≤ _; simp at *; omega)
  all_goals (conv => whnf)
  exact Tells.mk (DW.int rfl)
theorem grV_one (g : Gr) (p : Int) : ∀ v ∈ grV g p, v.oneCell' = true := by
  intro v hv
  simp only [grV, List.mem_cons, List.not_mem_nil, or_false] at hv
  rcases hv with rfl | rfl | rfl | rfl | rfl | rfl | rfl | rfl | rfl | rfl | rfl | rfl <;> rfl
theorem or4_orL (a b c d : Int) : orL [a, b, c, d] = or4 a b c d := by
  unfold or4
  simp only [orL, bne_iff_ne, ne_eq]
  split
  · rfl
  · split
    · rfl
    · split
      · rfl
      · split
        · rfl
        · rename_i h
          exact (Decidable.not_not.1 h).symm
/-- What the sort asks of the comparison. -/
theorem cmp41_kit (g h : Gr) (p q : Int) (W : World) : Calls Tryd.prog 41 #[.agg (grV g p).toArray, .agg (grV h q).toArray] W fun e w' => e = .returned (.int .i64 (orL (gOr g h p q))) ∧ ∃ n os', w' = Sort.grow (W.drewN n) os' :=
  cmp_calls rfl (grV_one g p) (grV_one h q) (cmp41_D g h p q) W trivial
end Go.Proofs.YtphgcgggbbcjgaaDoor

/- Who is ahead (the document); guards sorted by the kit's contract. -/
namespace Go.Proofs.YtphgcgggbbcjgaaDoor
open Go.RowKit Go.Dl Go.Shelf Go.Sort
attribute [local irreducible] Tri SCall DFun QSem PSem PCall GCall MCall Round Weak dloadE OW DWl Tells IntKind.wrap Retold ESem

def gdD (g : Gr) : List DV := [.v (.string g.nm), int1 g.kind, int1 g.low, int1 g.high, int1 g.hold, bl g.on, int1 g.run, bl g.has, int1 g.last, bl g.ak, int1 g.si]
def gds (l : List Gr) : DV := .lst 11 (l.map gdD)
def gr0 : Gr := ⟨ByteArray.empty, 0, 0, 0, 0, false, 0, false, 0, false, 0⟩
def keysG (l : List Gr) : Keys := ⟨fun i => (l.getD i gr0).ak, fun i => (l.getD i gr0).si, fun i => (l.getD i gr0).nm.toList⟩
theorem getD_nat {l : List Gr} (i : Nat) : l.getD (i : Int).toNat gr0 = l.getD i gr0 := by rw [Int.toNat_natCast]
theorem nm_ne {x y : ByteArray} (h : (x != y) = true) : x.toList ≠ y.toList := fun e => by
  rw [list_eq e, by_self] at h; cases h
theorem nm_eq {x y : ByteArray} (h : (x != y) = false) : x = y := by
  obtain ⟨a⟩ := x
  obtain ⟨b⟩ := y
  have h' : (a == b) = true := by
    have : (ByteArray.mk a == ByteArray.mk b) = true := by simpa [bne] using h
    exact this
  simp at h'
  rw [h']
theorem nat_dec (i k : Nat) : decide ((i : Int) < (k : Int)) = decide (i < k) := by
  by_cases h : i < k
  · simp [h]
  · simp [h]
theorem lt_k1 {l : List Gr} {i k : Nat} (h : ((l.getD i gr0).ak != (l.getD k gr0).ak) = true) : (keysG l).lt i k = (l.getD k gr0).ak := by
  unfold Keys.lt keysG
  exact if_pos (bne_iff_ne.1 h)
theorem lt_k2 {l : List Gr} {i k : Nat} (h1 : ((l.getD i gr0).ak != (l.getD k gr0).ak) = false) (h : ((l.getD i gr0).si != (l.getD k gr0).si) = true) : (keysG l).lt i k = decide ((l.getD i gr0).si < (l.getD k gr0).si) := by
  unfold Keys.lt keysG
  simp only
  rw [if_neg (by simpa [bne] using h1), if_pos (bne_iff_ne.1 h)]
theorem lt_k3 {l : List Gr} {i k : Nat} (h1 : ((l.getD i gr0).ak != (l.getD k gr0).ak) = false) (h2 : ((l.getD i gr0).si != (l.getD k gr0).si) = false) (h : ((l.getD i gr0).nm != (l.getD k gr0).nm) = true) : (keysG l).lt i k = Op.bytesLess (l.getD i gr0).nm.toList (l.getD k gr0).nm.toList := by
  unfold Keys.lt keysG
  simp only
  rw [if_neg (by simpa [bne] using h1), if_neg (by simpa [bne] using h2), if_pos (nm_ne h)]
theorem lt_k4 {l : List Gr} {i k : Nat} (h1 : ((l.getD i gr0).ak != (l.getD k gr0).ak) = false) (h2 : ((l.getD i gr0).si != (l.getD k gr0).si) = false) (h : ((l.getD i gr0).nm != (l.getD k gr0).nm) = false) : (keysG l).lt i k = decide ((i : Int) < (k : Int)) := by
  rw [nat_dec]
  unfold Keys.lt keysG
  simp only
  rw [if_neg (by simpa [bne] using h1), if_neg (by simpa [bne] using h2), if_neg (fun c => c (by rw [nm_eq h]))]
set_option maxRecDepth 20000 in
theorem ahead47_D (l : List Gr) (i k : Nat) (hi : i < l.length) (hk : k < l.length) : DPure Tryd.prog 47 [gds l, int1 i, int1 k] (bl ((keysG l).lt i k)) := by
  refine DFun.data (DFun.body Tryd.func47 rfl (by kernel_rfl) ?_)
  repeat' (first | with_reducible rfl | ((conv => whnf); first | refine And.intro ?_ ?_ | (intro h; first | exact Bool.noConfusion h | with_reducible exact h | (have ht : true = true := h; clear ht h) | skip) | ((with_reducible refine DWl.mark ?_); repeat' (first | refine DWl.cons ?_ ?_ | exact DWl.nil | exact DW.same _ rfl | exact DW.ref _ _ _ rfl | exact DW.arr _ _ _ rfl | exact DW.sub _ _ _ _ rfl | exact DW.nilLst _ | refine DW.aggl ?_ | refine DW.tupl ?_ | refine DW.clol ?_ ?_ | refine DW.int ?_ | refine DW.bool ?_ | refine DW.str ?_)) | refine dloadE_map (gr0) ?_ ?_ | refine dcell_ok rfl ?_ | refine AppC.new ?_))
  all_goals first | (with_reducible refine enters_mark ?_; kernel_rfl) | (with_reducible refine boolT_mark ?_; kernel_rfl) | rfl | trivial | assumption | exact Nat.le_of_ble_eq_true rfl | (show entersB _ _ = true; kernel_rfl) | exact DW.same _ rfl | exact DW.ref _ _ _ rfl | exact DW.arr _ _ _ rfl | refine DW.int ?_ | refine dvb ?_ | refine dvi ?_ | exact OW.cells rfl rfl (DWl.same rfl) | exact Nat.zero_le _ | omega | skip
  all_goals repeat' (first | refine OW.cells rfl rfl ?_ | exact DW.nilArr _ rfl | refine DWl.cons ?_ ?_ | exact DWl.nil | exact DW.same _ rfl | exact DW.ref _ _ _ rfl | exact DW.arr _ _ _ rfl | exact DW.sub _ _ _ _ rfl | exact DW.nilLst _ | refine DW.aggl ?_ | refine DW.tupl ?_ | refine DW.clol ?_ ?_)
  all_goals try ((conv => whnf); with_reducible first | refine Round.mark ?_ | refine Tells.mark ?_ | refine Retold.mark ?_)
  all_goals try first | (show (_ : Bool) = _; simp_all; done) | (show (_ : Int) < _; simp at *; omega) | (show (_ : Int) ≤ _; simp at *; omega) | (show (_ : Nat) < _; simp at *; omega) | (show (_ : Nat) ≤ _; simp at *; omega)
  all_goals (conv => whnf)
  · exact Tells.mk (DW.bool (lt_k1 h).symm)
  · rename_i h1
    exact Tells.mk (DW.bool (lt_k2 ‹_› h).symm)
  · exact Tells.mk (DW.bool (lt_k3 ‹_› ‹_› h).symm)
  · exact Tells.mk (DW.bool (lt_k4 ‹_› ‹_› h).symm)

def encG (l : List Gr) (i : Nat) : List Value := grV (l.getD i gr0) i
def rowG (l : List Gr) (P : List Nat) : List DV := (P.map fun i => grD (l.getD i gr0) i).flatten
theorem rowG_D (l : List Gr) (P : List Nat) : rowG l P = rowD (encG l) P := rfl
def sortG (l : List Gr) (P : List Nat) : List Nat := P.mergeSort fun x y => !(keysG l).lt y x
theorem cf_keys (l : List Gr) (x y : Nat) : orL (gOr (l.getD x gr0) (l.getD y gr0) x y) = (keysG l).cf x y := by
  unfold gOr Keys.cf keysG
  rw [or4_orL]
theorem lt_keys (l : List Gr) : ltOf (keysG l).cf = (keysG l).lt := by
  funext x y
  exact cf_lt _ x y
theorem sort_none {s : Sto} {id : Nat} {o : DObj} {K : DV → Sto → Prop} (hob : s.ob id = some o) (hK : K (.tup []) s) : SCall Tryd.prog 40 [.arr id 0, .clo (.func 41) [] []] s K := by
  have eg : ∀ args w, (callFunc 41 args).run Tryd.prog w = .ok (.enter 41 args) w := enters_of Tryd.func41 (by kernel_rfl) rfl
  have key : ∀ (p : Option Addr) (cap : Nat) (w : World), Calls Tryd.prog 40 #[.slice p 0 cap, .func (.func 41) #[] #[]] w fun e w' => e = .returned (.tuple #[]) ∧ w' = w := fun p cap w => AnyF.slices_SortFunc_none Tryd.sortGuards p cap _ w
  exact SCall.same0 hob key hK
set_option maxRecDepth 20000 in
theorem sort40_S (l : List Gr) {s : Sto} {id len : Nat} {P : List Nat} {K : DV → Sto → Prop} (hob : s.ob id = some ⟨78, 12, rowG l P⟩) (hn : len = P.length) (hlen : P.length ≤ 4194304)
    (hK : K (.tup []) ⟨upd s.ob id (some ⟨78, 12, rowG l (sortG l P)⟩), s.nx⟩) : SCall Tryd.prog 40 [.arr id len, .clo (.func 41) [] []] s K := by
  subst hn
  by_cases hne : P = []
  · subst hne
    refine sort_none hob ?_
    have e : sortG l [] = [] := by unfold sortG; simp
    rw [e] at hK
    have e2 : upd s.ob id (some ⟨78, 12, rowG l []⟩) = s.ob := by
      funext i
      by_cases h : i = id
      · rw [h, hob]; simp
      · exact upd_ne _ _ _ h
    rw [e2] at hK
    exact hK
  · refine SCall.sorted (enc := encG l) (k := 12) (l := P) (l' := sortG l P) (fun _ => rfl) (by decide) (fun x v hv => grV_one _ _ v hv) hob rfl (rowG_D l P) rfl hne (List.length_mergeSort P) (fun blk cap w hH hblk => ?_) hK
    have eg : ∀ args w, (callFunc 41 args).run Tryd.prog w = .ok (.enter 41 args) w := enters_of Tryd.func41 (by kernel_rfl) rfl
    have hcon := AnyQ.slices_SortFunc_total Tryd.sortGuards 12 Tryd.isAgg78 Tryd.sizeOf78 (encG l) (fun _ => rfl) (fun x v hv => grV_one _ _ v hv) (keysG l).cf (by rw [lt_keys]; exact (keysG l).swo) 41 #[] blk 0 cap P.toArray w eg
      (fun m os dk _ x y => (cmp41_kit (l.getD x gr0) (l.getD y gr0) x y _).mono fun e w' h => ⟨by rw [h.1, cf_keys], h.2⟩) hH hblk (by simp; omega) (fun x y h1 h2 => by rw [lt_keys] at h1 h2; exact (keysG l).tot h1 h2)
    rw [lt_keys] at hcon
    exact hcon
end Go.Proofs.YtphgcgggbbcjgaaDoor

/- The program's Rank: those that are on, sorted. -/
namespace Go.Proofs.YtphgcgggbbcjgaaDoor
open Go.RowKit Go.Dl Go.Shelf Go.Sort
attribute [local irreducible] Tri SCall DFun QSem PSem PCall GCall MCall Round Weak dloadE OW DWl Tells IntKind.wrap Retold ESem

theorem _root_.Go.Dl.Tri.at {P : Program} {N : Nat} {Y : YT} {c : Code} {st : St} {Q : DExit → St → Prop} (t : Nat) (d : DV) (_ : st.tm t = d) (h : Tri P N Y c st Q) : Tri P N Y c st Q := h
def onB (l : List Gr) (i : Nat) : Bool := (l.getD i gr0).on
def onK (l : List Gr) (k : Nat) : List Nat := (List.range k).filter (onB l)
theorem on_succ (l : List Gr) (k : Nat) : onK l (k + 1) = onK l k ++ (if onB l k = true then [k] else []) := by
  unfold onK
  rw [List.range_succ, List.filter_append]
  congr 1
  simp only [List.filter_cons, List.filter_nil]
theorem on_zero (l : List Gr) : onK l 0 = [] := rfl
theorem on_len (l : List Gr) (k : Nat) : (onK l k).length ≤ k := by
  unfold onK
  have := List.length_filter_le (onB l) (List.range k)
  rwa [List.length_range] at this
def rankG (l : List Gr) : List Nat := sortG l (onK l l.length)
def natI (l : List Nat) : List Int := l.map fun n : Nat => (n : Int)
theorem sortG_len (l : List Gr) (P : List Nat) : (sortG l P).length = P.length := List.length_mergeSort P
theorem rankG_len (l : List Gr) : (rankG l).length ≤ l.length := by
  unfold rankG
  rw [sortG_len]
  exact on_len l _
theorem rowG_append (l : List Gr) (P Q : List Nat) : rowG l (P ++ Q) = rowG l P ++ rowG l Q := by simp [rowG]
theorem rowG_cons (l : List Gr) (x : Nat) (P : List Nat) : rowG l (x :: P) = grD (l.getD x gr0) x ++ rowG l P := rfl
theorem rowG_len (l : List Gr) (P : List Nat) : (rowG l P).length = P.length * 12 := by
  induction P with
  | nil => rfl
  | cons a P ih => rw [rowG_cons, List.length_append, ih]; simp [grD]; omega
theorem rowG_all (l : List Gr) (P : List Nat) : (rowG l P).all noId1 = true := by
  induction P with
  | nil => rfl
  | cons a P ih => rw [rowG_cons, List.all_append, ih]; rfl
theorem rowG_push (l : List Gr) (P : List Nat) (x : Nat) : (rowG l P).take (P.length * 12) ++ grD (l.getD x gr0) x = rowG l (P ++ [x]) := by
  rw [List.take_of_length_le (by rw [rowG_len]; exact Nat.le_refl _), rowG_append]
  simp [rowG]
theorem rowG_zero (l : List Gr) : rowG l [] = [] := rfl
set_option maxRecDepth 20000 in
theorem rg_b1 (l : List Gr) (P : List Nat) : P.length * Tryd.prog.types[78].size ≤ (rowG l P).length := by
  show P.length * 12 ≤ _
  rw [rowG_len]; exact Nat.le_refl _
set_option maxRecDepth 20000 in
theorem rg_b2 {P : List Nat} {n : Nat} (h : P.length < n) (hl : n ≤ 1048576) : (P.length + 1) * Tryd.prog.types[78].bytes ≤ 140737488355328 := by
  show (P.length + 1) * 104 ≤ _
  omega
theorem rg_b3 {P : List Nat} {n : Nat} (h : P.length < n) (hl : n ≤ 1048576) : P.length + 1 ≤ maxLen := by simp only [maxLen]; omega
theorem pushN (P : List Nat) (x : Nat) : P.length + 1 = (P ++ [x]).length := by simp
theorem pushZ (P : List Int) (x : Int) : P.length + 1 = (P ++ [x]).length := by simp
def rk1 (l : List Gr) (i : Nat × List Nat) : St := ⟨0, tmOf [(3, .arr 0 i.2.length), (9, gds l), (10, int1 (l.map gdD).length), (11, int1 i.1)], .of [(0, ⟨78, 12, rowG l i.2⟩)] 1⟩
def Rk1 (l : List Gr) (i : Nat × List Nat) : Prop := i.1 ≤ l.length ∧ i.2 = onK l i.1
def sortedD (l : List Gr) : List (List DV) := (rankG l).map fun i => grD (l.getD i gr0) i
def rk2 (l : List Gr) (i : Nat × List Int) : St := ⟨0, tmOf [(6, .arr 0 i.2.length), (28, .lst 12 (sortedD l)), (29, int1 (rankG l).length), (30, int1 i.1)], .of [(0, ⟨3, 1, rowI i.2⟩)] 1⟩
def Rk2 (l : List Gr) (i : Nat × List Int) : Prop := i.1 ≤ (rankG l).length ∧ i.2 = (natI (rankG l)).take i.1
theorem rk1_len {l : List Gr} {i : Nat × List Nat} (hi : Rk1 l i) (hlt : i.1 < l.length) : i.2.length < l.length := by
  rw [hi.2]
  have := on_len l i.1
  omega
theorem rk1_le {l : List Gr} {i : Nat × List Nat} (hi : Rk1 l i) : i.2.length ≤ l.length := by
  rw [hi.2]
  have := on_len l i.1
  have := hi.1
  omega
theorem rk1_yes {l : List Gr} {i : Nat × List Nat} (hi : Rk1 l i) (hlt : i.1 < l.length) (h : (l.getD ((i.1 : Nat) : Int).toNat gr0).on = true) : Rk1 l (i.1 + 1, i.2 ++ [i.1]) :=
  ⟨hlt, by rw [on_succ, if_pos (show onB l i.1 = true from h), hi.2]⟩
theorem rk1_no {l : List Gr} {i : Nat × List Nat} (hi : Rk1 l i) (hlt : i.1 < l.length) (h : (l.getD ((i.1 : Nat) : Int).toNat gr0).on = false) : Rk1 l (i.1 + 1, i.2) :=
  ⟨hlt, by rw [on_succ, if_neg (by rw [show onB l i.1 = false from h]; decide), hi.2, List.append_nil]⟩
theorem rk1_end {l : List Gr} {i : Nat × List Nat} (hi : Rk1 l i) (h : l.length ≤ i.1) : sortG l i.2 = rankG l := by
  rw [hi.2, show i.1 = l.length by have := hi.1; omega]; rfl
theorem rowG_eq (l : List Gr) (P : List Nat) : rowG l P = (P.map fun i => grD (l.getD i gr0) i).flatten := rfl
theorem rk1_cells {l : List Gr} {i : Nat × List Nat} (hi : Rk1 l i) (h : l.length ≤ i.1) : rowG l (sortG l i.2) = (sortedD l).flatten := by
  rw [rk1_end hi h, rowG_eq]; rfl
theorem rk1_num {l : List Gr} {i : Nat × List Nat} (hi : Rk1 l i) (h : l.length ≤ i.1) : i.2.length = (rankG l).length := by
  rw [← rk1_end hi h, sortG_len]
theorem sortedD_len (l : List Gr) : (sortedD l).length = (rankG l).length := by simp [sortedD]
theorem rk1_num2 {l : List Gr} {i : Nat × List Nat} (hi : Rk1 l i) (h : l.length ≤ i.1) : (sortedD l).length = i.2.length := by
  rw [sortedD_len, rk1_num hi h]
theorem sorted_rows (l : List Gr) : ∀ r ∈ sortedD l, r.length = 12 ∧ r.all isData1 = true := by
  intro r hr
  obtain ⟨x, _, rfl⟩ := List.mem_map.1 hr
  exact ⟨rfl, rfl⟩
theorem rowI_flat (l : List Int) : rowI l = (l.map i1D).flatten := by
  induction l with
  | nil => rfl
  | cons a l ih => rw [List.map_cons, List.flatten_cons, ← ih]; rfl
set_option maxRecDepth 20000 in
theorem rj_b1 (P : List Int) : P.length * Tryd.prog.types[3].size ≤ (rowI P).length := by
  show P.length * 1 ≤ _
  rw [rowI_len]; omega
set_option maxRecDepth 20000 in
theorem rj_b2 {P : List Int} {n : Nat} (h : P.length < n) (hl : n ≤ 1048576) : (P.length + 1) * Tryd.prog.types[3].bytes ≤ 140737488355328 := by
  show (P.length + 1) * 8 ≤ _
  omega
theorem rj_b3 {P : List Int} {n : Nat} (h : P.length < n) (hl : n ≤ 1048576) : P.length + 1 ≤ maxLen := by simp only [maxLen]; omega
theorem natI_len (P : List Nat) : (natI P).length = P.length := List.length_map _
theorem rk2_len {l : List Gr} {i : Nat × List Int} (hi : Rk2 l i) (hlt : i.1 < (rankG l).length) : i.2.length < l.length := by
  rw [hi.2, List.length_take, natI_len]
  have := rankG_len l
  omega
theorem rk2_go {l : List Gr} {i : Nat × List Int} (hi : Rk2 l i) (hlt : i.1 < (rankG l).length) : Rk2 l (i.1 + 1, i.2 ++ [(((rankG l).getD ((i.1 : Nat) : Int).toNat 0 : Nat) : Int)]) := by
  refine ⟨hlt, ?_⟩
  rw [Int.toNat_natCast, hi.2]
  have h2 : i.1 < (natI (rankG l)).length := by rw [natI_len]; exact hlt
  rw [List.take_succ_eq_append_getElem h2]
  congr 2
  simp [natI, List.getD_eq_getElem?_getD, List.getElem?_eq_getElem hlt]
theorem rk2_end {l : List Gr} {i : Nat × List Int} (hi : Rk2 l i) (h : (rankG l).length ≤ i.1) : i.2 = natI (rankG l) := by
  rw [hi.2, List.take_of_length_le (by rw [natI_len]; exact h)]
theorem lt_nat {k n : Nat} (h : decide ((k : Int) < (n : Int)) = true) : k < n := by simpa using h
theorem ge_nat {k n : Nat} (h : decide ((k : Int) < (n : Int)) = false) : n ≤ k := by simpa using h
theorem cast_eq {a b : Nat} (h : a = b) : (a : Int) = b := by rw [h]
theorem cast_lt {a b : Nat} (h : a < b) : (a : Int) < b := by omega
attribute [local irreducible] rowG sortG rowI rankG
set_option maxRecDepth 20000 in
theorem rank28_D (l : List Gr) (hl : l.length ≤ 1048576) : DPure Tryd.prog 28 [gds l] (lstI (natI (rankG l))) := by
  refine DFun.data (DFun.body Tryd.func28 rfl (by kernel_rfl) ?_)
  repeat' (first | with_reducible rfl | ((conv => whnf); first | refine And.intro ?_ ?_ | (intro h; first | exact Bool.noConfusion h | with_reducible exact h | (have ht : true = true := h; clear ht h) | skip) | ((with_reducible refine DWl.mark ?_); repeat' (first | refine DWl.cons ?_ ?_ | exact DWl.nil | exact DW.same _ rfl | exact DW.ref _ _ _ rfl | exact DW.arr _ _ _ rfl | exact DW.sub _ _ _ _ rfl | exact DW.nilLst _ | refine DW.aggl ?_ | refine DW.tupl ?_ | refine DW.clol ?_ ?_ | refine DW.int ?_ | refine DW.bool ?_ | refine DW.str ?_)) | ((with_reducible refine SCall.mark ?_); first | refine sort40_S l rfl rfl ?_ ?_) | ((with_reducible refine Tri.mark ?_); first | (refine Tri.at 11 (int1 0) (by rfl) ?_; refine Tri.loop (rk1 l) (Rk1 l) (fun i => l.length - i.1) (0, []) (by kernel_rfl) (Weak.list [(0, none)] [] (by kernel_rfl) ?_ ?_) ?_ ?_) | (refine Tri.at 30 (int1 0) (by rfl) ?_; refine Tri.loop (rk2 l) (Rk2 l) (fun i => (rankG l).length - i.1) (0, []) (by kernel_rfl) (Weak.list [(0, none)] [0] (by kernel_rfl) ?_ ?_) ?_ ?_)) | refine dloadE_map (gr0) ?_ ?_ | refine dloadE_map (0) ?_ ?_ | refine dcell_ok rfl ?_ | refine AppC.new ?_))
  all_goals first | (with_reducible refine enters_mark ?_; kernel_rfl) | (with_reducible refine boolT_mark ?_; kernel_rfl) | rfl | trivial | assumption | exact Nat.le_of_ble_eq_true rfl | (show entersB _ _ = true; kernel_rfl) | exact DW.same _ rfl | exact DW.ref _ _ _ rfl | exact DW.arr _ _ _ rfl | refine DW.int ?_ | refine dvb ?_ | refine dvi ?_ | exact OW.cells rfl rfl (DWl.same rfl) | exact Nat.zero_le _ | omega | skip
  all_goals repeat' (first | refine OW.cells rfl rfl ?_ | exact DW.nilArr _ rfl | refine DWl.cons ?_ ?_ | exact DWl.nil | exact DW.same _ rfl | exact DW.ref _ _ _ rfl | exact DW.arr _ _ _ rfl | exact DW.sub _ _ _ _ rfl | exact DW.nilLst _ | refine DW.aggl ?_ | refine DW.tupl ?_ | refine DW.clol ?_ ?_)
  all_goals try ((conv => whnf); with_reducible first | refine Round.mark ?_ | refine Tells.mark ?_ | refine Retold.mark ?_)
  all_goals try first | (show (_ : Bool) = _; simp_all; done) | (show (_ : Int) < _; simp at *; omega) | (show (_ : Int) ≤ _; simp at *; omega) | (show (_ : Nat) < _; simp at *; omega) | (show (_ : Nat) ≤ _; simp at *; omega)
  · conv => whnf
    exact rowG_zero l
  · exact rg_b1 _ _
  · rename_i i hi e1
    exact rg_b2 (rk1_len hi (lt_of_test e1)) hl
  · rename_i i hi e1
    exact rg_b3 (rk1_len hi (lt_of_test e1)) hl
  · rename_i i hi e1
    have hlt := lt_of_test e1
    refine Round.go (fun _ => (i.1 + 1, i.2 ++ [i.1])) (rk1_yes hi hlt h) (by show l.length - (i.1 + 1) < l.length - i.1; omega) (Weak.list [(0, some 3)] [] (by kernel_rfl) ?_ ?_)
    · repeat' (first | exact wsucc hlt (by omega) | exact DWl.eq (rowG_push l i.2 i.1) (rowG_all _ _) | exact pushN i.2 _ | exact DW.same _ rfl | exact DW.ref _ _ _ rfl | exact DW.arr _ _ _ rfl | exact OW.cells rfl rfl (DWl.same rfl) | refine OW.cells rfl rfl ?_ | refine DWl.cons ?_ ?_ | exact DWl.nil | exact DW.nilArr _ rfl | exact DW.nilLst _ | refine DW.clol ?_ ?_ | refine DW.aggl ?_ | refine DW.tupl ?_ | refine DW.int ?_ | refine DW.bool ?_ | refine DW.str ?_ | refine DW.arrE rfl ?_ | ((conv => whnf); first | refine And.intro ?_ ?_ | trivial))
    · repeat' (first | exact wsucc hlt (by omega) | exact DWl.eq (rowG_push l i.2 i.1) (rowG_all _ _) | exact pushN i.2 _ | exact DW.same _ rfl | exact DW.ref _ _ _ rfl | exact DW.arr _ _ _ rfl | exact OW.cells rfl rfl (DWl.same rfl) | refine OW.cells rfl rfl ?_ | refine DWl.cons ?_ ?_ | exact DWl.nil | exact DW.nilArr _ rfl | exact DW.nilLst _ | refine DW.clol ?_ ?_ | refine DW.aggl ?_ | refine DW.tupl ?_ | refine DW.int ?_ | refine DW.bool ?_ | refine DW.str ?_ | refine DW.arrE rfl ?_ | ((conv => whnf); first | refine And.intro ?_ ?_ | trivial))
  · rename_i i hi e1
    have hlt := lt_of_test e1
    refine Round.go (fun _ => (i.1 + 1, i.2)) (rk1_no hi hlt h) (by show l.length - (i.1 + 1) < l.length - i.1; omega) (Weak.list [(0, some 0)] [] (by kernel_rfl) ?_ ?_)
    · repeat' (first | exact wsucc hlt (by omega) | exact DWl.eq (rfl : rowG l i.2 = rowG l i.2) (rowG_all _ _) | exact DW.same _ rfl | exact DW.ref _ _ _ rfl | exact DW.arr _ _ _ rfl | exact OW.cells rfl rfl (DWl.same rfl) | refine OW.cells rfl rfl ?_ | refine DWl.cons ?_ ?_ | exact DWl.nil | exact DW.nilArr _ rfl | exact DW.nilLst _ | refine DW.clol ?_ ?_ | refine DW.aggl ?_ | refine DW.tupl ?_ | refine DW.int ?_ | refine DW.bool ?_ | refine DW.str ?_ | refine DW.arrE rfl ?_ | ((conv => whnf); first | refine And.intro ?_ ?_ | trivial))
    · repeat' (first | exact wsucc hlt (by omega) | exact DWl.eq (rfl : rowG l i.2 = rowG l i.2) (rowG_all _ _) | exact DW.same _ rfl | exact DW.ref _ _ _ rfl | exact DW.arr _ _ _ rfl | exact OW.cells rfl rfl (DWl.same rfl) | refine OW.cells rfl rfl ?_ | refine DWl.cons ?_ ?_ | exact DWl.nil | exact DW.nilArr _ rfl | exact DW.nilLst _ | refine DW.clol ?_ ?_ | refine DW.aggl ?_ | refine DW.tupl ?_ | refine DW.int ?_ | refine DW.bool ?_ | refine DW.str ?_ | refine DW.arrE rfl ?_ | ((conv => whnf); first | refine And.intro ?_ ?_ | trivial))
  · rename_i i hi
    exact Nat.le_trans (rk1_le hi) (by omega)
  · rename_i i hi
    conv => whnf
    exact DW.pubE rfl rfl (by decide) (List.mem_singleton.2 rfl) (rk1_num2 hi (ge_of_test h)) (sorted_rows l) (rk1_cells hi (ge_of_test h))
  · rename_i i hi
    exact cast_eq (rk1_num hi (ge_of_test h))
  · conv => whnf
    exact rowI_zero
  · rename_i i hi
    exact cast_lt (by rw [sortedD_len]; exact lt_nat h)
  · exact rj_b1 _
  · rename_i i hi
    exact rj_b2 (rk2_len hi (lt_nat h)) hl
  · rename_i i hi
    exact rj_b3 (rk2_len hi (lt_nat h)) hl
  · rename_i i hi
    have hlt := lt_nat h
    have hle := rankG_len l
    refine Round.go (fun _ => (i.1 + 1, i.2 ++ [(((rankG l).getD ((i.1 : Nat) : Int).toNat 0 : Nat) : Int)])) (rk2_go hi hlt) (by show (rankG l).length - (i.1 + 1) < (rankG l).length - i.1; omega) (Weak.list [(0, some 3)] [] (by kernel_rfl) ?_ ?_)
    · repeat' (first | exact wsucc hlt (by omega) | exact DWl.eq (rowI_push i.2 _) (rowI_all _) | exact pushZ i.2 _ | exact DW.same _ rfl | exact DW.ref _ _ _ rfl | exact DW.arr _ _ _ rfl | exact OW.cells rfl rfl (DWl.same rfl) | refine OW.cells rfl rfl ?_ | refine DWl.cons ?_ ?_ | exact DWl.nil | exact DW.nilArr _ rfl | exact DW.nilLst _ | refine DW.clol ?_ ?_ | refine DW.aggl ?_ | refine DW.tupl ?_ | refine DW.int ?_ | refine DW.bool ?_ | refine DW.str ?_ | refine DW.arrE rfl ?_ | ((conv => whnf); first | refine And.intro ?_ ?_ | trivial))
    · repeat' (first | exact wsucc hlt (by omega) | exact DWl.eq (rowI_push i.2 _) (rowI_all _) | exact pushZ i.2 _ | exact DW.same _ rfl | exact DW.ref _ _ _ rfl | exact DW.arr _ _ _ rfl | exact OW.cells rfl rfl (DWl.same rfl) | refine OW.cells rfl rfl ?_ | refine DWl.cons ?_ ?_ | exact DWl.nil | exact DW.nilArr _ rfl | exact DW.nilLst _ | refine DW.clol ?_ ?_ | refine DW.aggl ?_ | refine DW.tupl ?_ | refine DW.int ?_ | refine DW.bool ?_ | refine DW.str ?_ | refine DW.arrE rfl ?_ | ((conv => whnf); first | refine And.intro ?_ ?_ | trivial))
  · rename_i i hi
    exact Tells.of (r1 := lstI i.2) (by rw [rk2_end hi (ge_nat h)]) (Tells.mk (DW.pubM rfl rfl rfl rfl (i1_row _) (rowI_flat _)))
end Go.Proofs.YtphgcgggbbcjgaaDoor

/- The document's Rank: each that is on is put in at its place. -/
namespace Go.Proofs.YtphgcgggbbcjgaaDoor
open Go.RowKit Go.Dl Go.Shelf Go.Sort
attribute [local irreducible] Tri SCall DFun QSem PSem PCall GCall MCall Round Weak dloadE OW DWl Tells IntKind.wrap Retold ESem

theorem tw_eq {p : Nat → Bool} : ∀ (out : List Nat) (k : Nat), k ≤ out.length → (∀ j, j < k → p (out.getD j 0) = true) → (k < out.length → p (out.getD k 0) = false) → out.takeWhile p = out.take k ∧ out.dropWhile p = out.drop k
  | [], k, hk, _, _ => by
    have h0 : k = 0 := by simpa using hk
    subst h0; exact ⟨rfl, rfl⟩
  | a :: l, 0, _, _, h => by
    have h' : p a = false := h (by simp)
    simp [List.takeWhile_cons, List.dropWhile_cons, h']
  | a :: l, k + 1, hk, h1, h2 => by
    have h' : p a = true := h1 0 (by omega)
    have ih := tw_eq l k (by simpa using hk) (fun j hj => h1 (j + 1) (by omega)) (fun hlt => h2 (by simpa using hlt))
    simp [List.takeWhile_cons, List.dropWhile_cons, h', ih.1, ih.2]
def docR (l : List Gr) (k : Nat) : List Nat := (keysG l).rank (onK l k)
theorem docR_zero (l : List Gr) : docR l 0 = [] := rfl
theorem docR_yes {l : List Gr} {i : Nat} (h : onB l i = true) : docR l (i + 1) = (keysG l).put (docR l i) i := by
  unfold docR Keys.rank
  rw [on_succ, if_pos h, List.foldl_append]; rfl
theorem docR_no {l : List Gr} {i : Nat} (h : onB l i = false) : docR l (i + 1) = docR l i := by
  unfold docR
  rw [on_succ, if_neg (by rw [h]; decide), List.append_nil]
theorem docR_len (l : List Gr) (k : Nat) : (docR l k).length ≤ k := by
  unfold docR
  rw [rank_sort, List.length_mergeSort]
  exact on_len l k
theorem docR_mem {l : List Gr} {k x : Nat} (h : x ∈ docR l k) : x < k := by
  unfold docR at h
  rw [rank_sort, List.mem_mergeSort] at h
  exact List.mem_range.1 (List.mem_filter.1 h).1
theorem docR_at {l : List Gr} {k j : Nat} (h : j < (docR l k).length) : (docR l k).getD j 0 < k := by
  rw [List.getD_eq_getElem?_getD, List.getElem?_eq_getElem h]
  exact docR_mem (List.getElem_mem h)
theorem docR_end (l : List Gr) : docR l l.length = rankG l := by
  unfold docR rankG sortG
  exact rank_sort _ _
theorem natI_at (P : List Nat) (k : Nat) : (natI P).getD k 0 = ((P.getD k 0 : Nat) : Int) := by
  unfold natI
  rw [List.getD_eq_getElem?_getD, List.getElem?_map, List.getD_eq_getElem?_getD]
  cases P[k]? <;> rfl
theorem natI_put {l : List Gr} {out : List Nat} {i k : Nat} (hk : k ≤ out.length) (h1 : ∀ j, j < k → (keysG l).lt (out.getD j 0) i = true) (h2 : k < out.length → (keysG l).lt (out.getD k 0) i = false) :
    (natI out).take k ++ (i : Int) :: (natI out).drop k = natI ((keysG l).put out i) := by
  obtain ⟨e1, e2⟩ := tw_eq (p := fun x => (keysG l).lt x i) out k hk h1 h2
  unfold Keys.put natI
  rw [e1, e2, List.map_append, List.map_cons, List.map_take, List.map_drop]
theorem rowI_app (a b : List Int) : rowI (a ++ b) = rowI a ++ rowI b := by simp [rowI]
theorem rowI_take (a : List Int) (k : Nat) : (rowI a).take k = rowI (a.take k) := by simp [rowI]
theorem rowI_drop (a : List Int) (k : Nat) : (rowI a).drop k = rowI (a.drop k) := by simp [rowI]
theorem rowI_one (a : List Int) : (rowI a).all DV.one = true := by simp [rowI, int1, DV.one]
theorem dcellI {g : Bool} {l : List Int} {off : Nat} {K : DV → Prop} (h : g = true → off < l.length) (hK : K (int1 (l.getD off 0))) : dcell g (rowI l) off K :=
  dcell_at _ (fun hg => by
    have hl := h hg
    unfold rowI
    rw [List.getElem?_map, List.getElem?_eq_getElem hl, List.getD_eq_getElem?_getD, List.getElem?_eq_getElem hl]; rfl) hK
theorem aheadK (l : List Gr) (P : List Nat) (k : Nat) (i : Nat) (h1 : P.getD k 0 < l.length) (hi : i < l.length) : DPure Tryd.prog 47 [gds l, int1 ((natI P).getD ((k : Int).toNat * 1) 0), int1 i] (bl ((keysG l).lt (P.getD k 0) i)) := by
  rw [Int.toNat_natCast, Nat.mul_one, natI_at]
  exact ahead47_D l _ _ h1 hi
theorem guard_lt {k n : Nat} (h : (decide ((k : Int) < (n : Int)) == true) = true) : k < n := by simpa using h
theorem test_tt {k n : Nat} {b : Bool} (h : (bif decide ((k : Int) < (n : Int)) then b else false) = true) : k < n ∧ b = true := by
  rw [Bool.cond_eq_ite] at h
  split at h
  · rename_i h2
    exact ⟨by simpa using h2, h⟩
  · cases h
theorem test_ff {k n : Nat} {b : Bool} (h : (bif decide ((k : Int) < (n : Int)) then b else false) = false) (hk : k < n) : b = false := by
  rw [show decide ((k : Int) < (n : Int)) = true by simpa using hk] at h
  exact h
theorem r_one (P : List Nat) (n m : Nat) : (List.take n (List.drop m (rowI (natI P)))).all DV.one = true := by
  rw [rowI_drop, rowI_take]; exact rowI_one _
theorem r_one0 (P : List Nat) (n : Nat) : (List.take n (rowI (natI P))).all DV.one = true := by
  rw [rowI_take]; exact rowI_one _
theorem r_len (P : List Nat) : (rowI (natI P)).length = P.length := by rw [rowI_len, natI_len]
theorem r_16 {P : List Nat} {k : Nat} (hk : k ≤ P.length) (x : DV) : ((k : Int).toNat + 1) * 1 ≤ (List.take ((k : Int).toNat * 1) (List.take ((k : Int).toNat * 1) (rowI (natI P))) ++ List.take (1 * 1) [x]).length := by
  rw [List.length_append, List.length_take, List.length_take, List.length_take, r_len, Int.toNat_natCast]
  simp only [List.length_cons, List.length_nil]
  omega
theorem put_cells {l : List Gr} {P : List Nat} {i k : Nat} (hk : k ≤ P.length) (h1 : ∀ j, j < k → (keysG l).lt (P.getD j 0) i = true) (h2 : k < P.length → (keysG l).lt (P.getD k 0) i = false) :
    List.take (((k : Int).toNat + 1) * 1) (List.take ((k : Int).toNat * 1) (List.take ((k : Int).toNat * 1) (rowI (natI P))) ++ List.take (1 * 1) [int1 i]) ++ List.take (((P.length : Int) - (k : Int)).toNat * 1) (List.drop ((k : Int).toNat * 1) (rowI (natI P))) = rowI (natI ((keysG l).put P i)) := by
  have e1 : ((P.length : Int) - (k : Int)).toNat = P.length - k := by omega
  rw [← natI_put hk h1 h2, rowI_app, Int.toNat_natCast, e1]
  simp only [Nat.mul_one, List.take_take, Nat.min_self]
  have e2 : (rowI (natI P)).length = P.length := r_len P
  have e3 : (List.take k (rowI (natI P))).length = k := by rw [List.length_take, e2]; omega
  rw [List.take_of_length_le (i := k + 1) (by rw [List.length_append, e3, List.length_take]; simp), List.take_of_length_le (i := P.length - k) (by rw [List.length_drop, e2]; omega), rowI_take, rowI_drop]
  simp [rowI]
theorem put_len (l : List Gr) (P : List Nat) (i : Nat) : ((keysG l).put P i).length = P.length + 1 := (put_perm _ _ _).length_eq
theorem put_num {l : List Gr} {P : List Nat} {i k : Nat} (hk : k ≤ P.length) : (k : Int).toNat + 1 + ((P.length : Int) - (k : Int)).toNat = ((keysG l).put P i).length := by
  rw [put_len]; omega
def Ri2 (l : List Gr) (i : Nat) (P : List Nat) (k : Nat) : Prop := k ≤ P.length ∧ ∀ j, j < k → (keysG l).lt (P.getD j 0) i = true
theorem ri2_go {l : List Gr} {P : List Nat} {i k : Nat} (hk : Ri2 l i P k) (h : k < P.length ∧ (keysG l).lt (P.getD k 0) i = true) : Ri2 l i P (k + 1) :=
  ⟨h.1, fun j hj => by
    rcases Nat.lt_or_eq_of_le (Nat.le_of_lt_succ hj) with h3 | h3
    · exact hk.2 j h3
    · rw [h3]; exact h.2⟩
theorem rowNI_zero : rowI (natI []) = [] := rfl
def ro1 (l : List Gr) (i : Nat × List Nat) : St := ⟨0, tmOf [(0, gds l), (3, .arr 0 i.2.length), (4, int1 i.1)], .of [(0, ⟨3, 1, rowI (natI i.2)⟩)] 1⟩
def Ro1 (l : List Gr) (i : Nat × List Nat) : Prop := i.1 ≤ l.length ∧ i.2 = docR l i.1
def ri2 (l : List Gr) (i : Nat) (P : List Nat) (k : Nat) : St := ⟨0, tmOf [(0, gds l), (3, .arr 0 P.length), (4, int1 i), (5, .v (.slice none 0 0)), (6, int1 k)], .of [(0, ⟨3, 1, rowI (natI P)⟩)] 1⟩
attribute [local irreducible] rowG sortG rowI rankG natI docR
set_option maxRecDepth 20000 in
theorem rank29_D (l : List Gr) (hl : l.length ≤ 1048576) : DPure Tryd.prog 29 [gds l] (lstI (natI (docR l l.length))) := by
  refine DFun.data (DFun.body Tryd.func29 rfl (by kernel_rfl) ?_)
  repeat' (first | with_reducible rfl | ((conv => whnf); first | refine And.intro ?_ ?_ | (intro h; first | exact Bool.noConfusion h | with_reducible exact h | (have ht : true = true := h; clear ht h) | skip) | ((with_reducible refine DWl.mark ?_); repeat' (first | refine DWl.cons ?_ ?_ | exact DWl.nil | exact DW.same _ rfl | exact DW.ref _ _ _ rfl | exact DW.arr _ _ _ rfl | exact DW.sub _ _ _ _ rfl | exact DW.nilLst _ | refine DW.aggl ?_ | refine DW.tupl ?_ | refine DW.clol ?_ ?_ | refine DW.int ?_ | refine DW.bool ?_ | refine DW.str ?_)) | ((with_reducible refine Tri.mark ?_); first | (refine Tri.at 4 (int1 0) (by rfl) ?_; refine Tri.loop (ro1 l) (Ro1 l) (fun i => l.length - i.1) (0, []) (by kernel_rfl) (Weak.list [(0, none)] [] (by kernel_rfl) ?_ ?_) ?_ ?_)) | refine dloadE_map (gr0) ?_ ?_ | refine dcell_ok rfl ?_ | refine AppC.new ?_))
  all_goals first | (with_reducible refine enters_mark ?_; kernel_rfl) | (with_reducible refine boolT_mark ?_; kernel_rfl) | rfl | trivial | assumption | exact Nat.le_of_ble_eq_true rfl | (show entersB _ _ = true; kernel_rfl) | exact DW.same _ rfl | exact DW.ref _ _ _ rfl | exact DW.arr _ _ _ rfl | refine DW.int ?_ | refine dvb ?_ | refine dvi ?_ | exact OW.cells rfl rfl (DWl.same rfl) | exact Nat.zero_le _ | omega | skip
  all_goals repeat' (first | refine OW.cells rfl rfl ?_ | exact DW.nilArr _ rfl | refine DWl.cons ?_ ?_ | exact DWl.nil | exact DW.same _ rfl | exact DW.ref _ _ _ rfl | exact DW.arr _ _ _ rfl | exact DW.sub _ _ _ _ rfl | exact DW.nilLst _ | refine DW.aggl ?_ | refine DW.tupl ?_ | refine DW.clol ?_ ?_)
  all_goals try ((conv => whnf); with_reducible first | refine Round.mark ?_ | refine Tells.mark ?_ | refine Retold.mark ?_)
  all_goals try first | (show (_ : Bool) = _; simp_all; done) | (show (_ : Int) < _; simp at *; omega) | (show (_ : Int) ≤ _; simp at *; omega) | (show (_ : Nat) < _; simp at *; omega) | (show (_ : Nat) ≤ _; simp at *; omega)
  · conv => whnf
    exact rowNI_zero
  · exact (docR_zero l).symm
  · rename_i i hi e1
    have hlt := lt_of_test e1
    refine Round.go (fun _ => (i.1 + 1, i.2)) ⟨hlt, by rw [hi.2]; exact (docR_no (by simpa [onB] using h)).symm⟩ (by show l.length - (i.1 + 1) < l.length - i.1; omega) (Weak.list [(0, some 0)] [] (by kernel_rfl) ?_ ?_)
    · repeat' (first | exact wsucc hlt (by omega) | exact DWl.eq (rfl : rowI _ = rowI _) (rowI_all _) | exact DW.same _ rfl | exact DW.ref _ _ _ rfl | exact DW.arr _ _ _ rfl | exact OW.cells rfl rfl (DWl.same rfl) | refine OW.cells rfl rfl ?_ | refine DWl.cons ?_ ?_ | exact DWl.nil | exact DW.nilArr _ rfl | exact DW.nilLst _ | refine DW.clol ?_ ?_ | refine DW.aggl ?_ | refine DW.tupl ?_ | refine DW.int ?_ | refine DW.bool ?_ | refine DW.str ?_ | refine DW.arrE rfl ?_ | ((conv => whnf); first | refine And.intro ?_ ?_ | trivial))
    · repeat' (first | exact wsucc hlt (by omega) | exact DWl.eq (rfl : rowI _ = rowI _) (rowI_all _) | exact DW.same _ rfl | exact DW.ref _ _ _ rfl | exact DW.arr _ _ _ rfl | exact OW.cells rfl rfl (DWl.same rfl) | refine OW.cells rfl rfl ?_ | refine DWl.cons ?_ ?_ | exact DWl.nil | exact DW.nilArr _ rfl | exact DW.nilLst _ | refine DW.clol ?_ ?_ | refine DW.aggl ?_ | refine DW.tupl ?_ | refine DW.int ?_ | refine DW.bool ?_ | refine DW.str ?_ | refine DW.arrE rfl ?_ | ((conv => whnf); first | refine And.intro ?_ ?_ | trivial))
  · rename_i i hi e1
    have hlt := lt_of_test e1
    obtain ⟨i, P⟩ := i
    obtain ⟨hi, hP⟩ := hi
    have hlt : i < l.length := hlt
    have hP : P = docR l i := hP
    have hon : onB l i = true := by simpa [onB] using h
    have hPl : P.length ≤ i := by rw [hP]; exact docR_len l i
    have hPx : ∀ j, j < P.length → P.getD j 0 < l.length := fun j hj => by
      rw [hP] at hj ⊢
      exact Nat.lt_trans (docR_at hj) hlt
    conv => whnf
    refine Tri.loop (ri2 l i P) (Ri2 l i P) (fun k => P.length - k) 0 (by kernel_rfl) (Weak.list [(0, some 0)] [] (by kernel_rfl) ?_ ?_) ⟨Nat.zero_le _, fun j hj => absurd hj (Nat.not_lt_zero _)⟩ ?_
    · repeat' (first | exact DWl.eq (rfl : rowI _ = rowI _) (rowI_all _) | exact DW.same _ rfl | exact DW.ref _ _ _ rfl | exact DW.arr _ _ _ rfl | exact OW.cells rfl rfl (DWl.same rfl) | refine OW.cells rfl rfl ?_ | refine DWl.cons ?_ ?_ | exact DWl.nil | exact DW.nilArr _ rfl | exact DW.nilLst _ | refine DW.clol ?_ ?_ | refine DW.aggl ?_ | refine DW.tupl ?_ | refine DW.int ?_ | refine DW.bool ?_ | refine DW.str ?_ | refine DW.arrE rfl ?_ | ((conv => whnf); first | refine And.intro ?_ ?_ | trivial))
    · repeat' (first | exact DWl.eq (rfl : rowI _ = rowI _) (rowI_all _) | exact DW.same _ rfl | exact DW.ref _ _ _ rfl | exact DW.arr _ _ _ rfl | exact OW.cells rfl rfl (DWl.same rfl) | refine OW.cells rfl rfl ?_ | refine DWl.cons ?_ ?_ | exact DWl.nil | exact DW.nilArr _ rfl | exact DW.nilLst _ | refine DW.clol ?_ ?_ | refine DW.aggl ?_ | refine DW.tupl ?_ | refine DW.int ?_ | refine DW.bool ?_ | refine DW.str ?_ | refine DW.arrE rfl ?_ | ((conv => whnf); first | refine And.intro ?_ ?_ | trivial))
    intro k hk
    repeat' (first | with_reducible rfl | ((conv => whnf); first | refine And.intro ?_ ?_ | (intro h; first | exact Bool.noConfusion h | with_reducible exact h | (have ht : true = true := h; clear ht h) | skip) | ((with_reducible refine DWl.mark ?_); repeat' (first | refine DWl.cons ?_ ?_ | exact DWl.nil | exact DW.same _ rfl | exact DW.ref _ _ _ rfl | exact DW.arr _ _ _ rfl | exact DW.sub _ _ _ _ rfl | exact DW.nilLst _ | refine DW.aggl ?_ | refine DW.tupl ?_ | refine DW.clol ?_ ?_ | refine DW.int ?_ | refine DW.bool ?_ | refine DW.str ?_)) | ((with_reducible refine GCall.mark ?_); first | refine GCall.data (fun hg => aheadK l P k i (hPx k (guard_lt hg)) hlt) rfl rfl ?_ | refine GCall.scal (fun hg => aheadK l P k i (hPx k (guard_lt hg)) hlt) rfl rfl ?_) | refine dloadE_map (gr0) ?_ ?_ | refine dcellI ?_ ?_ | refine dcell_ok rfl ?_ | refine AppC.new ?_))
    all_goals try ((conv => whnf); with_reducible refine Round.mark ?_)
    all_goals try first | ((with_reducible show Option.isSome (slElem _ _) = true); kernel_rfl) | ((with_reducible show slElem _ _ = some _); kernel_rfl) | ((with_reducible refine enters_mark ?_); kernel_rfl) | (with_reducible assumption) | ((with_reducible show List.all _ DV.one = true); rfl) | ((with_reducible show (_ : Nat) = _); rfl) | ((with_reducible show (_ == true) = true); simpa using h) | ((with_reducible show (_ : Nat) ≤ _); exact Nat.le_of_ble_eq_true rfl) | ((with_reducible show (_ : Int) ≤ _); first | omega | decide) | ((with_reducible show (_ : Int) < _); first | omega | decide) | ((with_reducible show (_ : Nat) < _); omega) | ((with_reducible show (_ : Nat) ≤ _); omega)
    · have := guard_lt h
      exact_mod_cast this
    · have := guard_lt h
      rw [natI_len]; omega
    · have h := test_tt h
      refine Round.go (· + 1) (ri2_go hk h) (by show P.length - (k + 1) < P.length - k; have := h.1; omega) (Weak.list [(0, some 0)] [] (by kernel_rfl) ?_ ?_)
      · repeat' (first | exact wsucc h.1 (by omega) | exact DWl.eq (rfl : rowI _ = rowI _) (rowI_all _) | exact DW.same _ rfl | exact DW.ref _ _ _ rfl | exact DW.arr _ _ _ rfl | exact OW.cells rfl rfl (DWl.same rfl) | refine OW.cells rfl rfl ?_ | refine DWl.cons ?_ ?_ | exact DWl.nil | exact DW.nilArr _ rfl | exact DW.nilLst _ | refine DW.clol ?_ ?_ | refine DW.aggl ?_ | refine DW.tupl ?_ | refine DW.int ?_ | refine DW.bool ?_ | refine DW.str ?_ | refine DW.arrE rfl ?_ | ((conv => whnf); first | refine And.intro ?_ ?_ | trivial))
      · repeat' (first | exact wsucc h.1 (by omega) | exact DWl.eq (rfl : rowI _ = rowI _) (rowI_all _) | exact DW.same _ rfl | exact DW.ref _ _ _ rfl | exact DW.arr _ _ _ rfl | exact OW.cells rfl rfl (DWl.same rfl) | refine OW.cells rfl rfl ?_ | refine DWl.cons ?_ ?_ | exact DWl.nil | exact DW.nilArr _ rfl | exact DW.nilLst _ | refine DW.clol ?_ ?_ | refine DW.aggl ?_ | refine DW.tupl ?_ | refine DW.int ?_ | refine DW.bool ?_ | refine DW.str ?_ | refine DW.arrE rfl ?_ | ((conv => whnf); first | refine And.intro ?_ ?_ | trivial))
    all_goals have hk1 := hk.1
    all_goals have hkk : (k : Int).toNat = k := Int.toNat_natCast k
    · exact_mod_cast hk1
    · show (k : Int).toNat * 1 ≤ (rowI (natI P)).length
      rw [r_len]; omega
    · exact r_one0 _ _
    · show (k : Int).toNat * 8 ≤ _
      omega
    · simp only [maxLen]; omega
    · show (k : Int).toNat * 1 ≤ (List.take ((k : Int).toNat * 1) (rowI (natI P))).length
      rw [List.length_take, r_len]; omega
    · show ((k : Int).toNat + 1) * 8 ≤ _
      omega
    · simp only [maxLen]; omega
    · exact_mod_cast hk1
    · exact Or.inl (Int.le_refl _)
    · show (k : Int).toNat * 1 + ((P.length : Int) - (k : Int)).toNat * 1 ≤ (rowI (natI P)).length
      rw [r_len]; omega
    · exact r_one _ _ _
    · exact r_16 hk1 _
    · show ((k : Int).toNat + 1 + ((P.length : Int) - (k : Int)).toNat) * 8 ≤ _
      omega
    · simp only [maxLen]; omega
    · refine Round.go (fun _ => (i + 1, (keysG l).put P i)) ⟨hlt, by show (keysG l).put P i = _; rw [docR_yes hon, ← hP]⟩ (by show l.length - (i + 1) < l.length - i; omega) (Weak.list [(0, some 4)] [] (by kernel_rfl) ?_ ?_)
      · repeat' (first | exact wsucc hlt (by omega) | exact DWl.eq (put_cells hk1 hk.2 (test_ff h)) (rowI_all _) | exact put_num hk1 | exact DW.same _ rfl | exact DW.ref _ _ _ rfl | exact DW.arr _ _ _ rfl | exact OW.cells rfl rfl (DWl.same rfl) | refine OW.cells rfl rfl ?_ | refine DWl.cons ?_ ?_ | exact DWl.nil | exact DW.nilArr _ rfl | exact DW.nilLst _ | refine DW.clol ?_ ?_ | refine DW.aggl ?_ | refine DW.tupl ?_ | refine DW.int ?_ | refine DW.bool ?_ | refine DW.str ?_ | refine DW.arrE rfl ?_ | ((conv => whnf); first | refine And.intro ?_ ?_ | trivial))
      · repeat' (first | exact wsucc hlt (by omega) | exact DWl.eq (put_cells hk1 hk.2 (test_ff h)) (rowI_all _) | exact put_num hk1 | exact DW.same _ rfl | exact DW.ref _ _ _ rfl | exact DW.arr _ _ _ rfl | exact OW.cells rfl rfl (DWl.same rfl) | refine OW.cells rfl rfl ?_ | refine DWl.cons ?_ ?_ | exact DWl.nil | exact DW.nilArr _ rfl | exact DW.nilLst _ | refine DW.clol ?_ ?_ | refine DW.aggl ?_ | refine DW.tupl ?_ | refine DW.int ?_ | refine DW.bool ?_ | refine DW.str ?_ | refine DW.arrE rfl ?_ | ((conv => whnf); first | refine And.intro ?_ ?_ | trivial))
  · rename_i i hi
    have hi1 : i.1 = l.length := by
      have h1 := ge_of_test h
      have h2 := hi.1
      omega
    exact Tells.of (r1 := lstI (natI i.2)) (by rw [hi.2, hi1]) (Tells.mk (DW.pubM rfl (natI_len _) rfl rfl (i1_row _) (rowI_flat _)))
end Go.Proofs.YtphgcgggbbcjgaaDoor

/- Both ranks are the same, for every list of guards. -/
namespace Go.Proofs.YtphgcgggbbcjgaaDoor
open Go.RowKit Go.Dl Go.Shelf Go.Sort
attribute [local irreducible] Tri SCall DFun QSem PSem PCall GCall MCall Round Weak dloadE OW DWl Tells IntKind.wrap Retold ESem

theorem rank29_E (l : List Gr) (hl : l.length ≤ 1048576) : DPure Tryd.prog 29 [gds l] (lstI (natI (rankG l))) := by
  rw [← docR_end]; exact rank29_D l hl
def rkL (l : List Gr) : List Int := natI (rankG l)
theorem rkL_len (l : List Gr) : (rkL l).length ≤ l.length := by
  unfold rkL
  rw [natI_len]; exact rankG_len l
def wr9 (l : List Gr) (i : Nat) : St := ⟨0, tmOf [(3, lstI (rkL l)), (4, lstI (rkL l)), (5, int1 i)], .of [] 0⟩
theorem rank28_R (l : List Gr) (hl : l.length ≤ 1048576) : DPure Tryd.prog 28 [gds l] (lstI (rkL l)) := rank28_D l hl
theorem rank29_R (l : List Gr) (hl : l.length ≤ 1048576) : DPure Tryd.prog 29 [gds l] (lstI (rkL l)) := rank29_E l hl
attribute [local irreducible] rkL
theorem ne_self {x : Int} {Q : Prop} (h : (x != x) = true) : Q := by simp at h
theorem lt_map {k : Nat} {l : List Int} (h : decide ((k : Int) < ((l.map i1D).length : Nat)) = true) : k < l.length := by simpa using h
set_option maxRecDepth 20000 in
theorem ranks9_D (l : List Gr) (hl : l.length ≤ 1048576) : DPure Tryd.prog 9 [gds l] (bl true) := by
  refine DFun.data (DFun.body Tryd.func9 rfl (by kernel_rfl) ?_)
  repeat' (first | with_reducible rfl | ((conv => whnf); first | refine And.intro ?_ ?_ | (intro h; first | exact Bool.noConfusion h | with_reducible exact h | (with_reducible exact ne_self h) | (have ht : true = true := h; clear ht h) | skip) | ((with_reducible refine DWl.mark ?_); repeat' (first | refine DWl.cons ?_ ?_ | exact DWl.nil | exact DW.same _ rfl | exact DW.ref _ _ _ rfl | exact DW.arr _ _ _ rfl | exact DW.sub _ _ _ _ rfl | exact DW.nilLst _ | refine DW.aggl ?_ | refine DW.tupl ?_ | refine DW.clol ?_ ?_ | refine DW.int ?_ | refine DW.bool ?_ | refine DW.str ?_)) | ((with_reducible refine SCall.mark ?_); first | refine SCall.data (rank28_R l hl) rfl rfl ?_ | refine SCall.scal (rank28_R l hl) rfl rfl ?_ | refine SCall.data (rank29_R l hl) rfl rfl ?_ | refine SCall.scal (rank29_R l hl) rfl rfl ?_ | refine SCall.data (awake12_D) rfl rfl ?_ | refine SCall.scal (awake12_D) rfl rfl ?_) | ((with_reducible refine PCall.mark ?_); first | refine PCall.mk (rank28_R l hl) rfl rfl ?_ | refine PCall.mk (rank29_R l hl) rfl rfl ?_ | refine PCall.mk (awake12_D) rfl rfl ?_) | ((with_reducible refine GCall.mark ?_); first | refine GCall.data (fun _ => rank28_R l hl) rfl rfl ?_ | refine GCall.scal (fun _ => rank28_R l hl) rfl rfl ?_ | refine GCall.data (fun _ => rank29_R l hl) rfl rfl ?_ | refine GCall.scal (fun _ => rank29_R l hl) rfl rfl ?_ | refine GCall.data (fun _ => awake12_D) rfl rfl ?_ | refine GCall.scal (fun _ => awake12_D) rfl rfl ?_) | ((with_reducible refine MCall.mark ?_); first | refine MCall.data (fun _ => rank28_R l hl) rfl rfl ?_ | refine MCall.plain (PCall.mk (rank28_R l hl) rfl rfl ?_) | refine MCall.data (fun _ => rank29_R l hl) rfl rfl ?_ | refine MCall.plain (PCall.mk (rank29_R l hl) rfl rfl ?_) | refine MCall.data (fun _ => awake12_D) rfl rfl ?_ | refine MCall.plain (PCall.mk (awake12_D) rfl rfl ?_)) | ((with_reducible refine Tri.mark ?_); first | (refine Tri.at 5 (int1 0) (by rfl) ?_; refine Tri.loop (wr9 l) (· ≤ (rkL l).length) (fun i => (rkL l).length - i) 0 (by kernel_rfl) (Weak.list [] [] (by kernel_rfl) ?_ ?_) ?_ ?_)) | refine dloadE_map (0) ?_ ?_ | refine dcell_ok rfl ?_ | refine AppC.new ?_))
  all_goals first | (with_reducible refine enters_mark ?_; kernel_rfl) | (with_reducible refine boolT_mark ?_; kernel_rfl) | rfl | trivial | assumption | exact Nat.le_of_ble_eq_true rfl | (show entersB _ _ = true; kernel_rfl) | exact DW.same _ rfl | exact DW.ref _ _ _ rfl | exact DW.arr _ _ _ rfl | refine DW.int ?_ | refine dvb ?_ | refine dvi ?_ | exact OW.cells rfl rfl (DWl.same rfl) | exact Nat.zero_le _ | omega | skip
  all_goals repeat' (first | refine OW.cells rfl rfl ?_ | exact DW.nilArr _ rfl | refine DWl.cons ?_ ?_ | exact DWl.nil | exact DW.same _ rfl | exact DW.ref _ _ _ rfl | exact DW.arr _ _ _ rfl | exact DW.sub _ _ _ _ rfl | exact DW.nilLst _ | refine DW.aggl ?_ | refine DW.tupl ?_ | refine DW.clol ?_ ?_)
  all_goals try ((conv => whnf); with_reducible first | refine Round.mark ?_ | refine Tells.mark ?_ | refine Retold.mark ?_)
  all_goals try first | (show (_ : Bool) = _; simp_all; done) | (show (_ : Int) < _; simp at *; omega) | (show (_ : Int) ≤ _; simp at *; omega) | (show (_ : Nat) < _; simp at *; omega) | (show (_ : Nat) ≤ _; simp at *; omega)
  · rename_i i hi e1
    have hlt := lt_map e1
    have hle := rkL_len l
    refine Round.go (· + 1) hlt (by show (rkL l).length - (i + 1) < (rkL l).length - i; omega) (Weak.list [] [] (by kernel_rfl) ?_ ?_)
    · repeat' (first | exact wsucc hlt (by omega) | exact DW.same _ rfl | exact DW.ref _ _ _ rfl | exact DW.arr _ _ _ rfl | exact OW.cells rfl rfl (DWl.same rfl) | refine OW.cells rfl rfl ?_ | refine DWl.cons ?_ ?_ | exact DWl.nil | exact DW.nilArr _ rfl | exact DW.nilLst _ | refine DW.clol ?_ ?_ | refine DW.aggl ?_ | refine DW.tupl ?_ | refine DW.int ?_ | refine DW.bool ?_ | refine DW.str ?_ | refine DW.arrE rfl ?_ | ((conv => whnf); first | refine And.intro ?_ ?_ | trivial))
    · repeat' (first | exact wsucc hlt (by omega) | exact DW.same _ rfl | exact DW.ref _ _ _ rfl | exact DW.arr _ _ _ rfl | exact OW.cells rfl rfl (DWl.same rfl) | refine OW.cells rfl rfl ?_ | refine DWl.cons ?_ ?_ | exact DWl.nil | exact DW.nilArr _ rfl | exact DW.nilLst _ | refine DW.clol ?_ ?_ | refine DW.aggl ?_ | refine DW.tupl ?_ | refine DW.int ?_ | refine DW.bool ?_ | refine DW.str ?_ | refine DW.arrE rfl ?_ | ((conv => whnf); first | refine And.intro ?_ ?_ | trivial))
  · exact Tells.mk (DW.bool rfl)
end Go.Proofs.YtphgcgggbbcjgaaDoor
