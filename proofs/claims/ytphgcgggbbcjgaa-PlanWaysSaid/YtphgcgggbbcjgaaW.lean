/- The law of the ways. -/
import Derived.Test.YtphgcgggbbcjgaaV
namespace Go.Proofs.Ytphgcgggbbcjgaa
open Go.RowKit Go.Dl
attribute [local irreducible] Tri SCall DFun QSem PCall GCall MCall Round Weak dloadE OW DWl Tells IntKind.wrap Retold ESem

def rowDD (n : Nat) (l : List Lk) (k : Nat) : List DV := (List.range k).map fun (v : Nat) => ints (distT n l v)
theorem rowDD_len (n : Nat) (l : List Lk) (k : Nat) : (rowDD n l k).length = k := by simp [rowDD]
theorem rowDD_all (n : Nat) (l : List Lk) (k : Nat) : (rowDD n l k).all noId1 = true := by
  rw [rowDD, List.all_map, List.all_eq_true]; intro x _
  simp only [Function.comp, ints]; rfl
theorem rowDD_push (n : Nat) (l : List Lk) (k : Nat) : (rowDD n l k).take (k * 1) ++ [ints (distT n l k)] = rowDD n l (k + 1) := by
  rw [List.take_of_length_le (by rw [rowDD_len]; omega), rowDD, rowDD, List.range_succ, List.map_append]; rfl
theorem dcell_DD {g : Bool} {n : Nat} {l : List Lk} {k off : Nat} {K : DV → Prop} (h : g = true → off < k) (hK : K (ints (distT n l off))) : dcell g (rowDD n l k) off K :=
  dcell_at _ (fun hg => by
    have hl := h hg
    rw [rowDD, List.getElem?_map, List.getElem?_range hl]; rfl) hK
theorem dcell_DDp {g : Bool} {n : Nat} {l : List Lk} {k off : Nat} {K : DV → Prop} (h : g = true → off < k + 1) (hK : K (ints (distT n l off))) : dcell g ((rowDD n l k).take (k * 1) ++ [ints (distT n l k)]) off K := by
  rw [rowDD_push]; exact dcell_DD h hK
def w1 (n : Nat) (l : List Lk) (k : Nat) : St := ⟨0, tmOf [(0, int1 n), (1, links l), (5, .arr 0 k), (20, int1 n), (21, int1 k)], .of [(0, ⟨40, 1, rowDD n l k⟩)] 1⟩
def w2 (n : Nat) (l : List Lk) (a : Nat) : St := ⟨0, tmOf [(0, int1 n), (1, links l), (5, .arr 0 n), (7, ints (partsT n l)), (8, int1 (widthP n l a)), (52, int1 n), (53, int1 a)], .of [(0, ⟨40, 1, rowDD n l n⟩)] 1⟩
def w3 (n : Nat) (l : List Lk) (a b : Nat) : St := ⟨0, tmOf [(0, int1 n), (1, links l), (5, .arr 0 n), (7, ints (partsT n l)), (8, int1 (((distT n l a).take b).foldl imax (widthP n l a))), (9, int1 a), (52, int1 n), (53, int1 a), (56, int1 n), (57, int1 b)], .of [(0, ⟨40, 1, rowDD n l n⟩)] 1⟩
def w4 (n : Nat) (l : List Lk) (a i : Nat) : St := ⟨0, tmOf [(0, int1 n), (1, links l), (5, .arr 0 n), (7, ints (partsT n l)), (8, int1 (widthP n l (a + 1))), (9, int1 a), (52, int1 n), (53, int1 a), (120, links l), (121, int1 l.length), (122, int1 i)], .of [(0, ⟨40, 1, rowDD n l n⟩)] 1⟩
theorem rowDD_zero (n : Nat) (l : List Lk) : rowDD n l 0 = [] := rfl
theorem width_zero (n : Nat) (l : List Lk) : (0 : Int) = widthP n l 0 := rfl
theorem width_all (n : Nat) (l : List Lk) : widthT n l = widthP n l n := rfl
theorem way1 {n : Nat} {l : List Lk} {k : Nat} (hl : inN n l) (hk : k < n) {Q : Prop} (h : (bif ((List.map intD (distT n l (((k : Int).toNat * 1 : Nat) : Int))).length : Int) != (n : Int) then true else (distT n l (((k : Int).toNat * 1 : Nat) : Int)).getD (k : Int).toNat 0 != 0) = true) : Q := by
  exfalso
  rw [Int.toNat_natCast, Nat.mul_one, List.length_map, distT_len, self_dist hl hk] at h
  simp at h
theorem way2 {n : Nat} {l : List Lk} {a b : Nat} (hl : inN n l) (ha : a < n) (hb : b < n) {Q : Prop}
    (h : (bif (bif (distT n l (((a : Int).toNat * 1 : Nat) : Int)).getD (b : Int).toNat 0 != (distT n l (((b : Int).toNat * 1 : Nat) : Int)).getD (a : Int).toNat 0 then true else (decide (0 ≤ (distT n l (((a : Int).toNat * 1 : Nat) : Int)).getD (b : Int).toNat 0) != ((partsT n l).getD (a : Int).toNat 0 == (partsT n l).getD (b : Int).toNat 0)))
      then true else bif (a : Int) != (b : Int) then (distT n l (((a : Int).toNat * 1 : Nat) : Int)).getD (b : Int).toNat 0 == 0 else false) = true) : Q := by
  exfalso
  simp only [Int.toNat_natCast, Nat.mul_one] at h
  rw [← d_sym hl ha hb, show decide (0 ≤ (distT n l a).getD b 0) = ((partsT n l).getD a 0 == (partsT n l).getD b 0) by rw [Bool.eq_iff_iff, decide_eq_true_eq, beq_iff_eq]; exact p_iff hl ha hb] at h
  simp at h
  exact d_zero hl ha hb (by omega) (by simpa using h.2)
theorem way3 {n : Nat} {l : List Lk} {k i : Nat} (hn : n ≤ 1000) (hl : inN n l) (hk : k < n) (hi : i < l.length) {Q : Prop}
    (h : (bif bif decide (1 < IntKind.i64.wrap ((distT n l (((k : Int).toNat * 1 : Nat) : Int)).getD (l.getD (i : Int).toNat lk0).fst.toNat 0 - (distT n l (((k : Int).toNat * 1 : Nat) : Int)).getD (l.getD (i : Int).toNat lk0).snd.toNat 0)) then true
      else decide (1 < IntKind.i64.wrap ((distT n l (((k : Int).toNat * 1 : Nat) : Int)).getD (l.getD (i : Int).toNat lk0).snd.toNat 0 - (distT n l (((k : Int).toNat * 1 : Nat) : Int)).getD (l.getD (i : Int).toNat lk0).fst.toNat 0)) then true
      else decide ((distT n l (((k : Int).toNat * 1 : Nat) : Int)).getD (l.getD (i : Int).toNat lk0).fst.toNat 0 < 0) != decide ((distT n l (((k : Int).toNat * 1 : Nat) : Int)).getD (l.getD (i : Int).toNat lk0).snd.toNat 0 < 0)) = true) : Q := by
  exfalso
  simp only [Int.toNat_natCast, Nat.mul_one] at h
  have hm : l.getD i lk0 ∈ l := by
    rw [List.getD_eq_getElem?_getD, List.getElem?_eq_getElem hi]; exact List.getElem_mem hi
  have he : EdgeL l (l.getD i lk0).1.toNat (l.getD i lk0).2.toNat := ⟨_, hm, .inl ⟨rfl, rfl⟩⟩
  have hb := hl i hi
  have ha1 : (l.getD i lk0).1.toNat < n := by omega
  have ha2 : (l.getD i lk0).2.toNat < n := by omega
  have r1 := d_rng (l := l) hk ha1
  have r2 := d_rng (l := l) hk ha2
  have e1 := d_edge hl hk ha1 ha2 he
  have e2 := d_edge hl hk ha2 ha1 he.symm
  generalize (distT n l k).getD (l.getD i lk0).1.toNat 0 = y at *
  generalize (distT n l k).getD (l.getD i lk0).2.toNat 0 = z at *
  rw [wrapI (by omega) (by omega), wrapI (by omega) (by omega), decide_eq_false (by omega), decide_eq_false (by omega)] at h
  by_cases hy : 0 ≤ y
  · rw [decide_eq_false (by omega), decide_eq_false (by omega)] at h; cases h
  · rw [decide_eq_true (by omega), decide_eq_true (by omega)] at h; cases h
theorem way_max {n : Nat} {l : List Lk} {k b : Nat} (hb : b < n) :
    (if ((distT n l k).take b).foldl imax (widthP n l k) < (distT n l (((k : Int).toNat * 1 : Nat) : Int)).getD (b : Int).toNat 0 then (distT n l (((k : Int).toNat * 1 : Nat) : Int)).getD (b : Int).toNat 0 else ((distT n l k).take b).foldl imax (widthP n l k)) = ((distT n l k).take (b + 1)).foldl imax (widthP n l k) := by
  rw [Int.toNat_natCast, Int.toNat_natCast, Nat.mul_one]
  exact (fold_at (distT n l k) _ (by rw [distT_len]; exact hb)).symm
theorem way_row {n : Nat} {l : List Lk} {k : Nat} (hk : k < n) : ((distT n l k).take n).foldl imax (widthP n l k) = widthP n l (k + 1) := by
  rw [List.take_of_length_le (by rw [distT_len]; exact Nat.le_refl _), maxS_fold (fun e => by have := distT_len n l k; rw [e] at this; simp at this; omega)]
  exact (width_succ n l k).symm
attribute [local irreducible] rowDD rowC distT partsT widthT widthP
set_option maxRecDepth 100000 in
set_option maxHeartbeats 1000000 in
theorem ways5_D (n : Int) (l : List Lk) : DPure Try.prog 5 [int1 n, links l] (.v (.bool true)) := by
  have hF := fit14_D n l
  cases hfit : fitB n l with
  | false =>
    rw [hfit] at hF
    refine DFun.body Try.func5 rfl (by kernel_rfl) ?_
    repeat' (first | with_reducible rfl | ((conv => whnf); first | refine And.intro ?_ ?_ | (intro h; first | exact Bool.noConfusion h | with_reducible exact h | (exfalso; simp at h; done) | (have ht : true = true := h; clear ht h) | skip) | ((with_reducible refine DWl.mark ?_); repeat' (first | refine DWl.cons ?_ ?_ | exact DWl.nil | exact DW.same _ rfl | exact DW.ref _ _ _ rfl | exact DW.arr _ _ _ rfl | exact DW.sub _ _ _ _ rfl | exact DW.nilLst _ | refine DW.aggl ?_ | refine DW.tupl ?_ | refine DW.clol ?_ ?_ | refine DW.int ?_ | refine DW.bool ?_ | refine DW.str ?_)) | ((with_reducible refine SCall.mark ?_); first | refine SCall.data (hF) rfl rfl ?_ | refine SCall.data (awake13_D) rfl rfl ?_ | refine SCall.scal (awake13_D) rfl rfl ?_) | ((with_reducible refine PCall.mark ?_); first | refine PCall.mk (awake13_D) rfl rfl ?_) | ((with_reducible refine GCall.mark ?_); first | refine GCall.data (fun _ => hF) rfl rfl ?_ | refine GCall.data (fun _ => awake13_D) rfl rfl ?_ | refine GCall.scal (fun _ => awake13_D) rfl rfl ?_) | ((with_reducible refine MCall.mark ?_); first | refine MCall.data (fun _ => hF) rfl rfl ?_ | refine MCall.data (fun _ => awake13_D) rfl rfl ?_ | refine MCall.plain (PCall.mk (awake13_D) rfl rfl ?_)) | refine dcell_ok rfl ?_ | refine AppC.new ?_))
    all_goals first | (with_reducible refine enters_mark ?_; kernel_rfl) | (with_reducible refine boolT_mark ?_; kernel_rfl) | rfl | trivial | assumption | exact Nat.le_of_ble_eq_true rfl | (show entersB _ _ = true; kernel_rfl) | exact DW.same _ rfl | exact DW.ref _ _ _ rfl | exact DW.arr _ _ _ rfl | refine DW.int ?_ | refine dvb ?_ | refine dvi ?_ | exact OW.cells rfl rfl (DWl.same rfl) | exact Nat.zero_le _ | omega | skip
    all_goals repeat' (first | refine OW.cells rfl rfl ?_ | exact DW.nilArr _ rfl | refine DWl.cons ?_ ?_ | exact DWl.nil | exact DW.same _ rfl | exact DW.ref _ _ _ rfl | exact DW.arr _ _ _ rfl | exact DW.sub _ _ _ _ rfl | exact DW.nilLst _ | refine DW.aggl ?_ | refine DW.tupl ?_ | refine DW.clol ?_ ?_)
    all_goals try ((conv => whnf); with_reducible first | refine Round.mark ?_ | refine Tells.mark ?_ | refine Retold.mark ?_)
    all_goals try first | (show (_ : Bool) = _; simp_all; done) | (show (_ : Int) < _; simp at *; omega) | (show (_ : Int) ≤ _; simp at *; omega) | (show (_ : Nat) < _; simp at *; omega) | (show (_ : Nat) ≤ _; simp at *; omega)
  | true =>
    rw [hfit] at hF
    obtain ⟨h1, h2, h3, h4⟩ := fitB_iff.1 hfit
    obtain ⟨m, rfl⟩ := Int.eq_ofNat_of_zero_le (show 0 ≤ n by omega)
    have hl := fit_inN hfit
    have hm : m ≤ 1000 := by omega
    have hlen : l.length ≤ 1000 := by
      have h5 := len_sq (by omega) h3
      have h6 : (m : Int) * m ≤ 16 * m := Int.mul_le_mul_of_nonneg_right h2 (by omega)
      omega
    refine DFun.body Try.func5 rfl (by kernel_rfl) ?_
    repeat' (first | with_reducible rfl | ((conv => whnf); first | refine And.intro ?_ ?_ | (intro h; first | exact Bool.noConfusion h | with_reducible exact h | (exfalso; simp at h; done) | (have ht : true = true := h; clear ht h) | skip) | ((with_reducible refine DWl.mark ?_); repeat' (first | refine DWl.cons ?_ ?_ | exact DWl.nil | exact DW.same _ rfl | exact DW.ref _ _ _ rfl | exact DW.arr _ _ _ rfl | exact DW.sub _ _ _ _ rfl | exact DW.nilLst _ | refine DW.aggl ?_ | refine DW.tupl ?_ | refine DW.clol ?_ ?_ | refine DW.int ?_ | refine DW.bool ?_ | refine DW.str ?_)) | ((with_reducible refine SCall.mark ?_); first | refine SCall.data (hF) rfl rfl ?_ | refine SCall.data (dist18_D m l _ hm hl) rfl rfl ?_ | refine SCall.data (parts19_D m l hm hl) rfl rfl ?_ | refine SCall.data (width20_D m l hm hl) rfl rfl ?_ | refine SCall.scal (width20_D m l hm hl) rfl rfl ?_ | refine SCall.data (awake13_D) rfl rfl ?_ | refine SCall.scal (awake13_D) rfl rfl ?_) | ((with_reducible refine PCall.mark ?_); first | refine PCall.mk (width20_D m l hm hl) rfl rfl ?_ | refine PCall.mk (awake13_D) rfl rfl ?_) | ((with_reducible refine GCall.mark ?_); first | refine GCall.data (fun _ => hF) rfl rfl ?_ | refine GCall.data (fun _ => dist18_D m l _ hm hl) rfl rfl ?_ | refine GCall.data (fun _ => parts19_D m l hm hl) rfl rfl ?_ | refine GCall.data (fun _ => width20_D m l hm hl) rfl rfl ?_ | refine GCall.scal (fun _ => width20_D m l hm hl) rfl rfl ?_ | refine GCall.data (fun _ => awake13_D) rfl rfl ?_ | refine GCall.scal (fun _ => awake13_D) rfl rfl ?_) | ((with_reducible refine MCall.mark ?_); first | refine MCall.data (fun _ => hF) rfl rfl ?_ | refine MCall.data (fun _ => dist18_D m l _ hm hl) rfl rfl ?_ | refine MCall.data (fun _ => parts19_D m l hm hl) rfl rfl ?_ | refine MCall.data (fun _ => width20_D m l hm hl) rfl rfl ?_ | refine MCall.plain (PCall.mk (width20_D m l hm hl) rfl rfl ?_) | refine MCall.data (fun _ => awake13_D) rfl rfl ?_ | refine MCall.plain (PCall.mk (awake13_D) rfl rfl ?_)) | ((with_reducible refine Tri.mark ?_); first | (refine Tri.at (21) (int1 0) (by rfl) ?_; refine Tri.loop (w1 m l) ((· ≤ m)) (fun k => m - k) (0) (by kernel_rfl) (Weak.list [(0, none)] [] ?_ ?_ ?_) ?_ ?_) | (refine Tri.at (53) (int1 0) (by rfl) ?_; refine Tri.loop (w2 m l) ((· ≤ m)) (fun k => m - k) (0) (by kernel_rfl) (Weak.list [(0, some 0)] [] ?_ ?_ ?_) ?_ ?_)) | refine dloadE_map (0) ?_ ?_ | refine dcell_DD ?_ ?_ | refine dcell_DDp ?_ ?_ | refine dcell_ok rfl ?_ | refine AppC.new ?_))
    all_goals first | (with_reducible refine enters_mark ?_; kernel_rfl) | (with_reducible refine boolT_mark ?_; kernel_rfl) | rfl | trivial | assumption | exact Nat.le_of_ble_eq_true rfl | (show entersB _ _ = true; kernel_rfl) | exact DW.same _ rfl | exact DW.ref _ _ _ rfl | exact DW.arr _ _ _ rfl | refine DW.int ?_ | refine dvb ?_ | refine dvi ?_ | exact OW.cells rfl rfl (DWl.same rfl) | exact Nat.zero_le _ | omega | skip
    all_goals repeat' (first | refine OW.cells rfl rfl ?_ | exact DW.nilArr _ rfl | refine DWl.cons ?_ ?_ | exact DWl.nil | exact DW.same _ rfl | exact DW.ref _ _ _ rfl | exact DW.arr _ _ _ rfl | exact DW.sub _ _ _ _ rfl | exact DW.nilLst _ | refine DW.aggl ?_ | refine DW.tupl ?_ | refine DW.clol ?_ ?_)
    all_goals try ((conv => whnf); with_reducible first | refine Round.mark ?_ | refine Tells.mark ?_ | refine Retold.mark ?_)
    all_goals try first | (show (_ : Bool) = _; simp_all; done) | (show (_ : Int) < _; simp at *; omega) | (show (_ : Int) ≤ _; simp at *; omega) | (show (_ : Nat) < _; simp at *; omega) | (show (_ : Nat) ≤ _; simp at *; omega)
    · conv => whnf
      exact rowDD_zero m l
    · rename_i k hk
      show k * 1 ≤ (rowDD m l k).length
      rw [rowDD_len]; omega
    · rename_i k hk
      have := lt_int h
      simp only [maxLen]; omega
    · rename_i e1
      exact way1 hl (lt_int e1) h
    · rename_i k hk e1
      have hkm := lt_int e1
      refine Round.go (· + 1) hkm (by show m - (k + 1) < m - k; omega) (Weak.list [(0, some 2)] [] (by kernel_rfl) ?_ ?_)
      · repeat' (first | exact wsucc hkm (by omega) | exact DWl.eq (rowDD_push m l k) (rowDD_all _ _ _) | exact DW.same _ rfl | exact DW.ref _ _ _ rfl | exact DW.arr _ _ _ rfl | exact OW.cells rfl rfl (DWl.same rfl) | refine OW.cells rfl rfl ?_ | refine DWl.cons ?_ ?_ | exact DWl.nil | exact DW.nilArr _ rfl | exact DW.nilLst _ | refine DW.clol ?_ ?_ | refine DW.aggl ?_ | refine DW.tupl ?_ | refine DW.int ?_ | refine DW.bool ?_ | refine DW.str ?_ | refine DW.arrE rfl ?_ | ((conv => whnf); first | refine And.intro ?_ ?_ | trivial))
      · repeat' (first | exact wsucc hkm (by omega) | exact DWl.eq (rowDD_push m l k) (rowDD_all _ _ _) | exact DW.same _ rfl | exact DW.ref _ _ _ rfl | exact DW.arr _ _ _ rfl | exact OW.cells rfl rfl (DWl.same rfl) | refine OW.cells rfl rfl ?_ | refine DWl.cons ?_ ?_ | exact DWl.nil | exact DW.nilArr _ rfl | exact DW.nilLst _ | refine DW.clol ?_ ?_ | refine DW.aggl ?_ | refine DW.tupl ?_ | refine DW.int ?_ | refine DW.bool ?_ | refine DW.str ?_ | refine DW.arrE rfl ?_ | ((conv => whnf); first | refine And.intro ?_ ?_ | trivial))
    · rename_i k hk
      have : k = m := by have := ge_int h; omega
      subst this
      exact DW.arr _ _ _ rfl
    · exact width_zero m l
    · rename_i k hk
      have : k = m := by have := ge_int h; omega
      subst this
      exact DWl.eq rfl (rowDD_all _ _ _)
    · rename_i k hk
      have hkm := lt_int h
      have hkl := distT_len m l k
      conv => whnf
      refine Tri.loop (w3 m l k) (· ≤ m) (fun b => m - b) 0 (by kernel_rfl) (Weak.list [(0, some 0)] [] (by kernel_rfl) ?_ ?_) (Nat.zero_le _) ?_
      · repeat' (first | exact DWl.eq rfl (rowDD_all _ _ _) | exact DW.same _ rfl | exact DW.ref _ _ _ rfl | exact DW.arr _ _ _ rfl | exact OW.cells rfl rfl (DWl.same rfl) | refine OW.cells rfl rfl ?_ | refine DWl.cons ?_ ?_ | exact DWl.nil | exact DW.nilArr _ rfl | exact DW.nilLst _ | refine DW.clol ?_ ?_ | refine DW.aggl ?_ | refine DW.tupl ?_ | refine DW.int ?_ | refine DW.bool ?_ | refine DW.str ?_ | refine DW.arrE rfl ?_ | ((conv => whnf); first | refine And.intro ?_ ?_ | trivial))
      · repeat' (first | exact DWl.eq rfl (rowDD_all _ _ _) | exact DW.same _ rfl | exact DW.ref _ _ _ rfl | exact DW.arr _ _ _ rfl | exact OW.cells rfl rfl (DWl.same rfl) | refine OW.cells rfl rfl ?_ | refine DWl.cons ?_ ?_ | exact DWl.nil | exact DW.nilArr _ rfl | exact DW.nilLst _ | refine DW.clol ?_ ?_ | refine DW.aggl ?_ | refine DW.tupl ?_ | refine DW.int ?_ | refine DW.bool ?_ | refine DW.str ?_ | refine DW.arrE rfl ?_ | ((conv => whnf); first | refine And.intro ?_ ?_ | trivial))
      intro b hb
      repeat' (first | with_reducible rfl | ((conv => whnf); first | refine And.intro ?_ ?_ | (intro h; first | exact Bool.noConfusion h | with_reducible exact h | (have ht : true = true := h; clear ht h) | skip) | ((with_reducible refine DWl.mark ?_); repeat' (first | refine DWl.cons ?_ ?_ | exact DWl.nil | exact DW.same _ rfl | exact DW.ref _ _ _ rfl | exact DW.arr _ _ _ rfl | exact DW.sub _ _ _ _ rfl | exact DW.nilLst _ | refine DW.aggl ?_ | refine DW.tupl ?_ | refine DW.clol ?_ ?_ | refine DW.int ?_ | refine DW.bool ?_ | refine DW.str ?_)) | refine dloadE_map (0) ?_ ?_ | refine dcell_DD ?_ ?_ | refine dcell_ok rfl ?_ | refine AppC.new ?_))
      all_goals try ((conv => whnf); with_reducible refine Round.mark ?_)
      all_goals try first | ((with_reducible show isBoolT _ _ = true); kernel_rfl) | ((with_reducible show (_ == false) = true); simpa using h) | ((with_reducible show (_ && _) = true); first | (rw [h]; rfl) | (rw [Bool.and_eq_true] at h; rw [h.1, h.2]; rfl)) | ((with_reducible show (_ : Int) < _); (try simp only [List.length_map, distT_len, partsT_len, Int.toNat_natCast, Nat.mul_one]); have := lt_int ‹decide ((b : Int) < (m : Int)) = true›; omega) | ((with_reducible show (_ : Nat) < _); simp only [List.length_map, distT_len, partsT_len, Int.toNat_natCast, Nat.mul_one]; have := lt_int ‹decide ((b : Int) < (m : Int)) = true›; omega) | ((with_reducible show Option.isSome (slElem _ _) = true); kernel_rfl) | ((with_reducible show slElem _ _ = some _); kernel_rfl) | ((with_reducible refine enters_mark ?_); kernel_rfl) | (with_reducible assumption) | ((with_reducible show List.all _ DV.one = true); rfl) | ((with_reducible show (_ : Nat) = _); rfl) | ((with_reducible show (_ == true) = true); simpa using h) | ((with_reducible show (_ : Nat) ≤ _); exact Nat.le_of_ble_eq_true rfl) | ((with_reducible show (_ : Int) ≤ _); first | omega | decide) | ((with_reducible show (_ : Int) < _); first | omega | decide) | ((with_reducible show (_ : Nat) < _); omega) | ((with_reducible show (_ : Nat) ≤ _); omega)
      · rename_i e1
        exact way2 hl hkm (lt_int e1) h
      · rename_i e1
        have hbm := lt_int e1
        refine Round.go (· + 1) hbm (by show m - (b + 1) < m - b; omega) (Weak.list [(0, some 0)] [] (by kernel_rfl) ?_ ?_)
        · repeat' (first | exact wsucc hbm (by omega) | exact DWl.eq rfl (rowDD_all _ _ _) | exact way_max hbm | exact DW.same _ rfl | exact DW.ref _ _ _ rfl | exact DW.arr _ _ _ rfl | exact OW.cells rfl rfl (DWl.same rfl) | refine OW.cells rfl rfl ?_ | refine DWl.cons ?_ ?_ | exact DWl.nil | exact DW.nilArr _ rfl | exact DW.nilLst _ | refine DW.clol ?_ ?_ | refine DW.aggl ?_ | refine DW.tupl ?_ | refine DW.int ?_ | refine DW.bool ?_ | refine DW.str ?_ | refine DW.arrE rfl ?_ | ((conv => whnf); first | refine And.intro ?_ ?_ | trivial))
        · repeat' (first | exact wsucc hbm (by omega) | exact DWl.eq rfl (rowDD_all _ _ _) | exact way_max hbm | exact DW.same _ rfl | exact DW.ref _ _ _ rfl | exact DW.arr _ _ _ rfl | exact OW.cells rfl rfl (DWl.same rfl) | refine OW.cells rfl rfl ?_ | refine DWl.cons ?_ ?_ | exact DWl.nil | exact DW.nilArr _ rfl | exact DW.nilLst _ | refine DW.clol ?_ ?_ | refine DW.aggl ?_ | refine DW.tupl ?_ | refine DW.int ?_ | refine DW.bool ?_ | refine DW.str ?_ | refine DW.arrE rfl ?_ | ((conv => whnf); first | refine And.intro ?_ ?_ | trivial))
      · have : b = m := by have := ge_int h; omega
        subst this
        conv => whnf
        refine Tri.loop (w4 b l k) (· ≤ l.length) (fun i => l.length - i) 0 (by kernel_rfl) (Weak.list [(0, some 0)] [] (by kernel_rfl) ?_ ?_) (Nat.zero_le _) ?_
        · repeat' (first | exact DWl.eq rfl (rowDD_all _ _ _) | exact way_row hkm | exact congrArg (fun (x : Nat) => (x : Int)) (List.length_map _) | exact DW.same _ rfl | exact DW.ref _ _ _ rfl | exact DW.arr _ _ _ rfl | exact OW.cells rfl rfl (DWl.same rfl) | refine OW.cells rfl rfl ?_ | refine DWl.cons ?_ ?_ | exact DWl.nil | exact DW.nilArr _ rfl | exact DW.nilLst _ | refine DW.clol ?_ ?_ | refine DW.aggl ?_ | refine DW.tupl ?_ | refine DW.int ?_ | refine DW.bool ?_ | refine DW.str ?_ | refine DW.arrE rfl ?_ | ((conv => whnf); first | refine And.intro ?_ ?_ | trivial))
        · repeat' (first | exact DWl.eq rfl (rowDD_all _ _ _) | exact way_row hkm | exact congrArg (fun (x : Nat) => (x : Int)) (List.length_map _) | exact DW.same _ rfl | exact DW.ref _ _ _ rfl | exact DW.arr _ _ _ rfl | exact OW.cells rfl rfl (DWl.same rfl) | refine OW.cells rfl rfl ?_ | refine DWl.cons ?_ ?_ | exact DWl.nil | exact DW.nilArr _ rfl | exact DW.nilLst _ | refine DW.clol ?_ ?_ | refine DW.aggl ?_ | refine DW.tupl ?_ | refine DW.int ?_ | refine DW.bool ?_ | refine DW.str ?_ | refine DW.arrE rfl ?_ | ((conv => whnf); first | refine And.intro ?_ ?_ | trivial))
        intro i hi
        repeat' (first | with_reducible rfl | ((conv => whnf); first | refine And.intro ?_ ?_ | (intro h; first | exact Bool.noConfusion h | with_reducible exact h | (have ht : true = true := h; clear ht h) | skip) | ((with_reducible refine DWl.mark ?_); repeat' (first | refine DWl.cons ?_ ?_ | exact DWl.nil | exact DW.same _ rfl | exact DW.ref _ _ _ rfl | exact DW.arr _ _ _ rfl | exact DW.sub _ _ _ _ rfl | exact DW.nilLst _ | refine DW.aggl ?_ | refine DW.tupl ?_ | refine DW.clol ?_ ?_ | refine DW.int ?_ | refine DW.bool ?_ | refine DW.str ?_)) | refine dloadE_map (0) ?_ ?_ | refine dloadE_map (lk0) ?_ ?_ | refine dcell_DD ?_ ?_ | refine dcell_ok rfl ?_ | refine AppC.new ?_))
        all_goals try ((conv => whnf); with_reducible refine Round.mark ?_)
        all_goals try first | ((with_reducible show isBoolT _ _ = true); kernel_rfl) | ((with_reducible show (_ == false) = true); simpa using h) | ((with_reducible show (_ : Int) < _); (try simp only [List.length_map, distT_len, Int.toNat_natCast, Nat.mul_one]); have hli := lt_int ‹decide ((i : Int) < (l.length : Int)) = true›; have hx := hl i hli; omega) | ((with_reducible show (_ : Int) ≤ _); (try simp only [List.length_map, distT_len, Int.toNat_natCast, Nat.mul_one]); have hli := lt_int ‹decide ((i : Int) < (l.length : Int)) = true›; have hx := hl i hli; omega) | ((with_reducible show (_ : Nat) < _); simp only [List.length_map, distT_len, Int.toNat_natCast, Nat.mul_one]; have hli := lt_int ‹decide ((i : Int) < (l.length : Int)) = true›; have hx := hl i hli; omega) | ((with_reducible show Option.isSome (slElem _ _) = true); kernel_rfl) | ((with_reducible show slElem _ _ = some _); kernel_rfl) | ((with_reducible refine enters_mark ?_); kernel_rfl) | (with_reducible assumption) | ((with_reducible show List.all _ DV.one = true); rfl) | ((with_reducible show (_ : Nat) = _); rfl) | ((with_reducible show (_ == true) = true); simpa using h) | ((with_reducible show (_ : Nat) ≤ _); exact Nat.le_of_ble_eq_true rfl) | ((with_reducible show (_ : Int) ≤ _); first | omega | decide) | ((with_reducible show (_ : Int) < _); first | omega | decide) | ((with_reducible show (_ : Nat) < _); omega) | ((with_reducible show (_ : Nat) ≤ _); omega)
        · rename_i e1
          exact way3 hm hl hkm (lt_int e1) h
        · rename_i e1
          have hli := lt_int e1
          refine Round.go (· + 1) hli (by show l.length - (i + 1) < l.length - i; omega) (Weak.list [(0, some 0)] [] (by kernel_rfl) ?_ ?_)
          · repeat' (first | exact wsucc hli (by omega) | exact DWl.eq rfl (rowDD_all _ _ _) | exact DW.same _ rfl | exact DW.ref _ _ _ rfl | exact DW.arr _ _ _ rfl | exact OW.cells rfl rfl (DWl.same rfl) | refine OW.cells rfl rfl ?_ | refine DWl.cons ?_ ?_ | exact DWl.nil | exact DW.nilArr _ rfl | exact DW.nilLst _ | refine DW.clol ?_ ?_ | refine DW.aggl ?_ | refine DW.tupl ?_ | refine DW.int ?_ | refine DW.bool ?_ | refine DW.str ?_ | refine DW.arrE rfl ?_ | ((conv => whnf); first | refine And.intro ?_ ?_ | trivial))
          · repeat' (first | exact wsucc hli (by omega) | exact DWl.eq rfl (rowDD_all _ _ _) | exact DW.same _ rfl | exact DW.ref _ _ _ rfl | exact DW.arr _ _ _ rfl | exact OW.cells rfl rfl (DWl.same rfl) | refine OW.cells rfl rfl ?_ | refine DWl.cons ?_ ?_ | exact DWl.nil | exact DW.nilArr _ rfl | exact DW.nilLst _ | refine DW.clol ?_ ?_ | refine DW.aggl ?_ | refine DW.tupl ?_ | refine DW.int ?_ | refine DW.bool ?_ | refine DW.str ?_ | refine DW.arrE rfl ?_ | ((conv => whnf); first | refine And.intro ?_ ?_ | trivial))
        · refine Round.go (· + 1) hkm (by show b - (k + 1) < b - k; omega) (Weak.list [(0, some 0)] [] (by kernel_rfl) ?_ ?_)
          · repeat' (first | exact wsucc hkm (by omega) | exact DWl.eq rfl (rowDD_all _ _ _) | exact DW.same _ rfl | exact DW.ref _ _ _ rfl | exact DW.arr _ _ _ rfl | exact OW.cells rfl rfl (DWl.same rfl) | refine OW.cells rfl rfl ?_ | refine DWl.cons ?_ ?_ | exact DWl.nil | exact DW.nilArr _ rfl | exact DW.nilLst _ | refine DW.clol ?_ ?_ | refine DW.aggl ?_ | refine DW.tupl ?_ | refine DW.int ?_ | refine DW.bool ?_ | refine DW.str ?_ | refine DW.arrE rfl ?_ | ((conv => whnf); first | refine And.intro ?_ ?_ | trivial))
          · repeat' (first | exact wsucc hkm (by omega) | exact DWl.eq rfl (rowDD_all _ _ _) | exact DW.same _ rfl | exact DW.ref _ _ _ rfl | exact DW.arr _ _ _ rfl | exact OW.cells rfl rfl (DWl.same rfl) | refine OW.cells rfl rfl ?_ | refine DWl.cons ?_ ?_ | exact DWl.nil | exact DW.nilArr _ rfl | exact DW.nilLst _ | refine DW.clol ?_ ?_ | refine DW.aggl ?_ | refine DW.tupl ?_ | refine DW.int ?_ | refine DW.bool ?_ | refine DW.str ?_ | refine DW.arrE rfl ?_ | ((conv => whnf); first | refine And.intro ?_ ?_ | trivial))
    · rename_i k hk
      have : k = m := by have := ge_int h; omega
      subst this
      rw [width_all]; simp
end Go.Proofs.Ytphgcgggbbcjgaa
