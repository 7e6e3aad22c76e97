/- Groups of a table: the document's. -/
import Derived.Test.YtlchjjchgebfiaaGreatDoorPkY
import Derived.Test.YtlchjjchgebfiaaGreatDoorPkX
import Derived.Lib.ItoaLen
import Derived.Test.YtlchjjchgebfiaaGreatDoorPkA

namespace Go.Proofs.YtlchjjchgebfiaaGreatDoor
open Go.RowKit Go.Dl
attribute [local irreducible] Tri SCall TSem ECall Drawn DFun QSem PSem PCall GCall MCall Round Weak dloadE OW DWl Tells IntKind.wrap Retold ESem
def swL (l : List ByteArray) (j : Nat) : List ByteArray := (l.set (j + 1) (l.getD j emB)).set j (l.getD (j + 1) emB)
def bubL : Nat → List ByteArray → List ByteArray
  | 0, l => l
  | j + 1, l => bif lessB (l.getD (j + 1) emB) (l.getD j emB) then bubL j (swL l j) else l
def insL (t : Tb) (k : Nat) : Nat → List ByteArray
  | 0 => []
  | i + 1 => bubL i (insL t k i ++ [celA t k i])
theorem swL_len (l : List ByteArray) (j : Nat) : (swL l j).length = l.length := by rw [swL, List.length_set, List.length_set]
theorem bubL_len : ∀ (j : Nat) (l : List ByteArray), (bubL j l).length = l.length
  | 0, l => rfl
  | j + 1, l => by
    rw [bubL]
    cases lessB (l.getD (j + 1) emB) (l.getD j emB) with
    | true => rw [cond_true, bubL_len j, swL_len]
    | false => rfl
theorem insL_len (t : Tb) (k : Nat) : ∀ i, (insL t k i).length = i
  | 0 => rfl
  | i + 1 => by rw [insL, bubL_len, List.length_append, insL_len t k i]; rfl
theorem swL_mem {l : List ByteArray} {j : Nat} (hj : j + 1 < l.length) {s : ByteArray} (h : s ∈ swL l j) : s ∈ l := by
  unfold swL at h
  rcases List.mem_or_eq_of_mem_set h with h | rfl
  · rcases List.mem_or_eq_of_mem_set h with h | rfl
    · exact h
    · rw [List.getD_eq_getElem?_getD, List.getElem?_eq_getElem (by omega)]; exact List.getElem_mem _
  · rw [List.getD_eq_getElem?_getD, List.getElem?_eq_getElem hj]; exact List.getElem_mem _
theorem bubL_mem : ∀ (j : Nat) {l : List ByteArray}, j < l.length → ∀ {s : ByteArray}, s ∈ bubL j l → s ∈ l
  | 0, l, _, s, h => h
  | j + 1, l, hj, s, h => by
    rw [bubL] at h
    cases hl : lessB (l.getD (j + 1) emB) (l.getD j emB) with
    | true =>
      rw [hl, cond_true] at h
      exact swL_mem hj (bubL_mem j (by rw [swL_len]; omega) h)
    | false => rw [hl, cond_false] at h; exact h
theorem insL_small {t : Tb} (ht : Tbl t) {k : Nat} (hk : k < t.head.length) : ∀ {i : Nat}, i ≤ t.rows.length → ∀ s ∈ insL t k i, s.size ≤ 1024
  | 0, _, s, h => by cases h
  | i + 1, hi, s, h => by
    rw [insL] at h
    have h2 := bubL_mem i (by rw [List.length_append, insL_len]; exact Nat.lt_succ_self i) h
    rw [List.mem_append, List.mem_singleton] at h2
    rcases h2 with h2 | rfl
    · exact insL_small ht hk (Nat.le_of_succ_le hi) s h2
    · exact cel_size ht hk hi
theorem bubL_t {l : List ByteArray} {j : Nat} (h : lessB (l.getD (j + 1) emB) (l.getD j emB) = true) : bubL (j + 1) l = bubL j (swL l j) := by rw [bubL, h]; rfl
theorem bubL_f {l : List ByteArray} {j : Nat} (h : lessB (l.getD (j + 1) emB) (l.getD j emB) = false) : bubL (j + 1) l = l := by rw [bubL, h]; rfl
def gdSt (t : Tb) (k i : Nat) : St := ⟨0, tmOf [(1, int1 k), (2, .ref 0 0), (4, .ref 1 0), (6, .ref 2 0), (7, .arr 3 i), (8, int1 i)], .of [(0, ⟨25, 2, [strs t.head, rowsD t.rows]⟩), (1, ⟨25, 2, [.v (.slice none 0 0), .v (.slice none 0 0)]⟩), (2, ⟨25, 2, [strs [t.head.getD k emB, cntB], .v (.slice none 0 0)]⟩), (3, ⟨9, 1, (insL t k i).map strV⟩)] 4⟩
def gdIn (t : Tb) (k i : Nat) (p : Nat × List ByteArray) : St := ⟨0, tmOf [(1, int1 k), (2, .ref 0 0), (4, .ref 1 0), (6, .ref 2 0), (7, .arr 3 (i + 1)), (8, int1 i), (9, int1 p.1)], .of [(0, ⟨25, 2, [strs t.head, rowsD t.rows]⟩), (1, ⟨25, 2, [.v (.slice none 0 0), .v (.slice none 0 0)]⟩), (2, ⟨25, 2, [strs [t.head.getD k emB, cntB], .v (.slice none 0 0)]⟩), (3, ⟨9, 1, p.2.map strV⟩)] 4⟩
theorem lc_get {l : List ByteArray} {n x : Nat} (hl : l.length = n) (h : x < n) : (l.map strV)[x]? = some (strV (l.getD x emB)) := by
  subst hl
  rw [List.getElem?_map, List.getElem?_eq_getElem h, List.getD_eq_getElem?_getD, List.getElem?_eq_getElem h]; rfl
set_option maxRecDepth 20000 in
theorem ld_1 (t : Tb) (k i : Nat) : i * Tryz.prog.types[9].size ≤ ((insL t k i).map strV).length := by
  show i * 1 ≤ _
  rw [List.length_map, insL_len, Nat.mul_one]; exact Nat.le_refl _
set_option maxRecDepth 20000 in
theorem ld_2 {i : Nat} (hi : i ≤ 4096) : (i + 1) * Tryz.prog.types[9].bytes ≤ 140737488355328 := by
  show (i + 1) * 16 ≤ _
  omega
theorem ld_push (t : Tb) (k i : Nat) : ((insL t k i).map strV).take (i * 1) ++ [strV (celA t k i)] = (insL t k i ++ [celA t k i]).map strV := by
  rw [List.map_append, List.take_of_length_le (by rw [List.length_map, insL_len]; omega)]; rfl
theorem sw_eq {l : List ByteArray} {j : Nat} (hj : j ≤ 4096) : setMany (setMany (l.map strV) (((j + 1 : Nat) : Int).toNat * 1) [strV (l.getD ((IntKind.i64.wrap (((j + 1 : Nat) : Int) - 1)).toNat * 1) emB)]) ((IntKind.i64.wrap (((j + 1 : Nat) : Int) - 1)).toNat * 1) [strV (l.getD (((j + 1 : Nat) : Int).toNat * 1) emB)] = (swL l j).map strV := by
  rw [ix_1, ix_0 hj]
  show ((l.map strV).set (j + 1) _).set j _ = _
  rw [swL, List.map_set, List.map_set]
theorem cd_is {l : List ByteArray} {j : Nat} {b : Bool} (hj : j ≤ 4096) (h : (bif decide ((0 : Int) < ((j + 1 : Nat) : Int)) then lessB (l.getD (((j + 1 : Nat) : Int).toNat * 1) emB) (l.getD ((IntKind.i64.wrap (((j + 1 : Nat) : Int) - 1)).toNat * 1) emB) else false) = b) : lessB (l.getD (j + 1) emB) (l.getD j emB) = b := by
  rw [ix_1, ix_0 hj, decide_eq_true (show (0 : Int) < ((j + 1 : Nat) : Int) by omega)] at h
  exact h
theorem le_e {l : List ByteArray} {n j : Nat} (hl : l.length = n) (h : j + 1 < n) (hn : n ≤ 4096) (p : Nat) (d : DV) : (IntKind.i64.wrap (((j + 1 : Nat) : Int) - 1)).toNat * 1 + 1 ≤ (setMany (l.map strV) p [d]).length := by
  show _ ≤ ((l.map strV).set p d).length
  rw [List.length_set, List.length_map, ix_0 (by omega)]; omega
theorem le_d {l : List ByteArray} {n j : Nat} (hl : l.length = n) (h : j + 1 < n) : ((j + 1 : Nat) : Int).toNat * 1 + 1 ≤ (l.map strV).length := by rw [List.length_map, ix_1]; omega
def brk (L : List ByteArray) (j : Nat) : Bool := bif ((j + 1 : Nat) : Int) == ((L.length : Nat) : Int) then true else L.getD (j + 1) emB != L.getD j emB
def rnC (L : List ByteArray) : Nat → Nat
  | 0 => 0
  | j + 1 => bif brk L j then 0 else rnC L j + 1
def rnR (L : List ByteArray) : Nat → List (List ByteArray)
  | 0 => []
  | j + 1 => bif brk L j then rnR L j ++ [[L.getD j emB, numB ((rnC L j + 1 : Nat) : Int)]] else rnR L j
theorem rnC_le (L : List ByteArray) : ∀ j, rnC L j ≤ j
  | 0 => Nat.le_refl 0
  | j + 1 => by
    rw [rnC]
    have := rnC_le L j
    cases brk L j <;> simp <;> omega
theorem rnR_le (L : List ByteArray) : ∀ j, (rnR L j).length ≤ j
  | 0 => Nat.le_refl 0
  | j + 1 => by
    rw [rnR]
    have := rnR_le L j
    cases brk L j <;> simp <;> omega
theorem kb0 {L : List ByteArray} {j : Nat} (h : j < L.length) : ((j : Nat) : Int).toNat * 1 < L.length := by rw [Int.toNat_natCast]; omega
theorem kb1 {L : List ByteArray} {j : Nat} (hL : L.length ≤ 4096) (h : j < L.length) (hg : (IntKind.i64.wrap (((j : Nat) : Int) + 1) == ((L.length : Nat) : Int)) == false) : (IntKind.i64.wrap (((j : Nat) : Int) + 1)).toNat * 1 < L.length := by
  rw [wsucc h (by omega)] at hg ⊢
  have h1 : ((j + 1 : Nat) : Int) ≠ ((L.length : Nat) : Int) := by
    intro c
    rw [c] at hg
    rw [show (((L.length : Nat) : Int) == ((L.length : Nat) : Int)) = true from beq_iff_eq.2 rfl] at hg
    cases hg
  rw [Int.toNat_natCast]; omega
theorem kb2 {L : List ByteArray} {j : Nat} (hL : L.length ≤ 4096) (h : j < L.length) : 0 ≤ IntKind.i64.wrap (((j : Nat) : Int) + 1) := by rw [wsucc h (by omega)]; omega
theorem kb3 {L : List ByteArray} {j : Nat} (hL : L.length ≤ 4096) (h : j < L.length) (hg : ((IntKind.i64.wrap (((j : Nat) : Int) + 1) == ((L.length : Nat) : Int)) == false) = true) : IntKind.i64.wrap (((j : Nat) : Int) + 1) < ((L.length : Nat) : Int) := by
  have h1 := kb1 hL h hg
  have h2 := kb2 hL h
  omega
theorem rn_w {L : List ByteArray} {j : Nat} (hL : L.length ≤ 4096) (h : j < L.length) : IntKind.i64.wrap (((rnC L j : Nat) : Int) + 1) = ((rnC L j + 1 : Nat) : Int) := by
  have := rnC_le L j
  rw [wrapI (by omega) (by omega)]; omega
theorem bk_is {L : List ByteArray} {j : Nat} {b : Bool} (hL : L.length ≤ 4096) (h : j < L.length) (k : (bif IntKind.i64.wrap (((j : Nat) : Int) + 1) == ((L.length : Nat) : Int) then true else L.getD ((IntKind.i64.wrap (((j : Nat) : Int) + 1)).toNat * 1) emB != L.getD (((j : Nat) : Int).toNat * 1) emB) = b) : brk L j = b := by
  rw [wsucc h (by omega), Int.toNat_natCast, Int.toNat_natCast, Nat.mul_one, Nat.mul_one] at k
  exact k
theorem rn_push {L : List ByteArray} {j : Nat} (hL : L.length ≤ 4096) (h : j < L.length) (hb : brk L j = true) : (rowsC (rnR L j)).take ((rnR L j).length * 1) ++ [strs [L.getD (((j : Nat) : Int).toNat * 1) emB, numB (IntKind.i64.wrap (((rnC L j : Nat) : Int) + 1))]] = rowsC (rnR L (j + 1)) := by
  rw [rnR, hb, cond_true, rn_w hL h, Int.toNat_natCast, Nat.mul_one, Nat.mul_one, List.take_of_length_le (by rw [rowsC_len]; omega), rowsC_map, rowsC_map, List.map_append]; rfl
theorem rn_len {L : List ByteArray} {j : Nat} (hb : brk L j = true) : (rnR L j).length + 1 = (rnR L (j + 1)).length := by
  rw [rnR, hb, cond_true, List.length_append]; rfl
theorem rn_0 {L : List ByteArray} {j : Nat} (hb : brk L j = true) : (0 : Int) = ((rnC L (j + 1) : Nat) : Int) := by rw [rnC, hb]; rfl
theorem rn_f {L : List ByteArray} {j : Nat} (hb : brk L j = false) : rnR L (j + 1) = rnR L j := by rw [rnR, hb]; rfl
theorem rn_s {L : List ByteArray} {j : Nat} (hL : L.length ≤ 4096) (h : j < L.length) (hb : brk L j = false) : IntKind.i64.wrap (((rnC L j : Nat) : Int) + 1) = ((rnC L (j + 1) : Nat) : Int) := by rw [rn_w hL h, rnC, hb]; rfl
set_option maxRecDepth 20000 in
theorem rn_1 (L : List ByteArray) (j : Nat) : (rnR L j).length * Tryz.prog.types[22].size ≤ (rowsC (rnR L j)).length := by
  show _ * 1 ≤ _
  rw [rowsC_len]; omega
set_option maxRecDepth 20000 in
theorem rn_2 {L : List ByteArray} {j : Nat} (hj : j ≤ 4096) : ((rnR L j).length + 1) * Tryz.prog.types[22].bytes ≤ 140737488355328 := by
  show (_ + 1) * 24 ≤ _
  have := rnR_le L j
  omega
theorem rn_3 {L : List ByteArray} {j : Nat} (hj : j ≤ 4096) : (rnR L j).length + 1 ≤ maxLen := by
  have := rnR_le L j
  simp only [maxLen]; omega
def geSt (t : Tb) (k : Nat) (L : List ByteArray) (j : Nat) : St := ⟨0, tmOf [(4, .ref 0 0), (6, .ref 1 0), (7, .arr 2 L.length), (11, int1 (rnC L j)), (12, int1 j)], .of [(0, ⟨25, 2, [.v (.slice none 0 0), .v (.slice none 0 0)]⟩), (1, ⟨25, 2, [strs [t.head.getD k emB, cntB], .arr 3 (rnR L j).length]⟩), (2, ⟨9, 1, L.map strV⟩), (3, ⟨22, 1, rowsC (rnR L j)⟩)] 4⟩
def groupG (t : Tb) (k : Nat) : Tb := ⟨[t.head.getD k emB, cntB], rnR (insL t k t.rows.length) (insL t k t.rows.length).length⟩
set_option maxRecDepth 100000 in
set_option maxHeartbeats 2000000 in
theorem group30_D (t : Tb) (ht : Tbl t) (k : Nat) (hk : k < t.head.length) : DPure Tryz.prog 30 [tab t, int1 k] (.tup [tab (groupG t k), int1 0]) := by
  have hkh : (k : Int) < (((t.head.map strD).length : Nat) : Int) := by rw [List.length_map]; omega
  have hkn : (decide ((k : Int) < 0) == false) = true := by rw [decide_eq_false (by omega)]; rfl
  have hkt : (bif decide ((k : Int) < 0) then true else decide ((((t.head.map strD).length : Nat) : Int) ≤ (k : Int))) = false := by rw [decide_eq_false (by omega), List.length_map, decide_eq_false (by omega)]; rfl
  refine DFun.data (DFun.body Tryz.func30 rfl (by kernel_rfl) ?_)
  repeat' (first | with_reducible rfl | ((conv => whnf); first | refine And.intro ?_ ?_ | (intro h; first | with_reducible exact tf_no h | with_reducible exact ft_no h | exact Bool.noConfusion h | with_reducible exact h | (exfalso; exact bt_x hkt h) | (have ht : true = true := h; clear ht h) | skip) | ((with_reducible refine ECall.mark ?_); first | refine ECall.only ?_ (fun h => nomatch h) | refine ECall.only ?_ ?_) | ((with_reducible refine Drawn.mark ?_); first | refine Drawn.quiet (by kernel_rfl) ?_) | refine dloadE_map (emB) ?_ ?_ | refine dcell_ok rfl ?_ | refine AppC.new ?_))
  all_goals try (first | (with_reducible exact hkn) | (exact hkh; done))
  all_goals try first | ((with_reducible show Option.isSome (slElem _ _) = true); kernel_rfl) | ((with_reducible show slElem _ _ = some _); kernel_rfl) | ((with_reducible refine enters_mark ?_); kernel_rfl) | (with_reducible assumption) | ((with_reducible show List.all _ DV.one = true); rfl) | ((with_reducible show (_ : Nat) = _); rfl) | ((with_reducible show (_ == true) = true); simpa using h) | ((with_reducible show (_ : Nat) ≤ _); exact Nat.le_of_ble_eq_true rfl) | ((with_reducible show (_ : Int) ≤ _); first | omega | decide) | ((with_reducible show (_ : Int) < _); first | omega | decide) | ((with_reducible show (_ : Nat) < _); omega) | ((with_reducible show (_ : Nat) ≤ _); omega)
  conv => whnf
  refine Tri.loop (gdSt t k) (· ≤ t.rows.length) (fun i => t.rows.length - i) 0 (by kernel_rfl) (Weak.list [(0, some 0), (1, some 1), (2, some 3), (3, none)] [2] (by kernel_rfl) ?_ ?_) (Nat.zero_le _) ?_
  iterate 2 · repeat' (first | exact DW.nilArr _ rfl | exact DW.pubE rfl rfl (Nat.zero_lt_succ _) (List.mem_singleton.2 rfl) rfl strRow rfl | exact DW.same _ rfl | exact DW.ref _ _ _ rfl | exact DW.arr _ _ _ rfl | exact OW.cells rfl rfl (DWl.same rfl) | refine OW.cells rfl rfl ?_ | refine DWl.cons ?_ ?_ | exact DWl.nil | exact DW.nilArr _ rfl | exact DW.nilLst _ | refine DW.clol ?_ ?_ | refine DW.aggl ?_ | refine DW.tupl ?_ | refine DW.int ?_ | refine DW.bool ?_ | refine DW.str ?_ | refine DW.arrE rfl ?_ | ((conv => whnf); first | refine And.intro ?_ ?_ | trivial))
  intro i hi
  have hi : i ≤ t.rows.length := hi
  have hi4 : i ≤ 4096 := Nat.le_trans hi ht.rows
  show dcode _ _ _ _ (gdSt t k i) _
  by_cases hil : i < t.rows.length
  · have hlt : (i : Int) < (((t.rows.map rowD).length : Nat) : Int) := by rw [List.length_map]; omega
    repeat' (first | with_reducible rfl | ((conv => whnf); first | refine And.intro ?_ ?_ | (intro h; first | with_reducible exact tf_no h | with_reducible exact ft_no h | exact Bool.noConfusion h | with_reducible exact h | (exfalso; exact of_decide_eq_false h hlt) | (have ht : true = true := h; clear ht h) | skip) | ((with_reducible refine ECall.mark ?_); first | refine ECall.only ?_ (fun h => nomatch h) | refine ECall.only ?_ ?_) | ((with_reducible refine Drawn.mark ?_); first | refine Drawn.quiet (by kernel_rfl) ?_) | refine dloadE_map (([] : List ByteArray)) ?_ ?_ | refine dloadE_map (emB) ?_ ?_ | refine dcell_ok rfl ?_ | refine AppC.new ?_))
    all_goals try first | ((with_reducible show Option.isSome (slElem _ _) = true); kernel_rfl) | ((with_reducible show slElem _ _ = some _); kernel_rfl) | ((with_reducible refine enters_mark ?_); kernel_rfl) | (with_reducible assumption) | ((with_reducible show List.all _ DV.one = true); rfl) | ((with_reducible show (_ : Nat) = _); rfl) | ((with_reducible show (_ == true) = true); simpa using h) | ((with_reducible show (_ : Nat) ≤ _); exact Nat.le_of_ble_eq_true rfl) | ((with_reducible show (_ : Int) ≤ _); first | omega | decide) | ((with_reducible show (_ : Int) < _); first | omega | decide) | ((with_reducible show (_ : Nat) < _); omega) | ((with_reducible show (_ : Nat) ≤ _); omega)
    all_goals try (first | (with_reducible exact ld_1 t k i) | (with_reducible exact ld_2 hi4) | (with_reducible exact gr_3 hi4) | (exact col_in ht hk hil; done) | (exact col_at ht hk hil; done))
    conv => whnf
    have hcs := cel_size ht hk hil
    have hsm := insL_small ht hk hi
    have hsz : ∀ s ∈ insL t k i ++ [celA t k i], s.size ≤ 1024 := fun s h => by
      rw [List.mem_append, List.mem_singleton] at h
      rcases h with h | rfl
      · exact hsm s h
      · exact hcs
    have hll : (insL t k i ++ [celA t k i]).length = i + 1 := by rw [List.length_append, insL_len]; rfl
    refine Tri.loop (gdIn t k i) (fun q => q.1 ≤ i ∧ q.2.length = i + 1 ∧ (∀ s ∈ q.2, s.size ≤ 1024) ∧ bubL q.1 q.2 = insL t k (i + 1)) (fun q => q.1) (i, insL t k i ++ [celA t k i]) (by kernel_rfl) (Weak.list [(0, some 0), (1, some 1), (2, some 2), (3, some 5)] [] (by kernel_rfl) ?_ ?_) ⟨Nat.le_refl _, hll, hsz, rfl⟩ ?_
    iterate 2 · repeat' (first | exact DWl.eq (ld_push t k i) (strV_all _) | exact ix_w hi4 | exact DW.same _ rfl | exact DW.ref _ _ _ rfl | exact DW.arr _ _ _ rfl | exact OW.cells rfl rfl (DWl.same rfl) | refine OW.cells rfl rfl ?_ | refine DWl.cons ?_ ?_ | exact DWl.nil | exact DW.nilArr _ rfl | exact DW.nilLst _ | refine DW.clol ?_ ?_ | refine DW.aggl ?_ | refine DW.tupl ?_ | refine DW.int ?_ | refine DW.bool ?_ | refine DW.str ?_ | refine DW.arrE rfl ?_ | ((conv => whnf); first | refine And.intro ?_ ?_ | trivial))
    intro ⟨j, l⟩ ⟨hj, hl, hls, hb⟩
    have hj : j ≤ i := hj
    have hl : l.length = i + 1 := hl
    have hls : ∀ s ∈ l, s.size ≤ 1024 := hls
    have hb : bubL j l = insL t k (i + 1) := hb
    cases j with
    | zero =>
      show dcode _ _ _ _ (gdIn t k i (0, l)) _
      repeat' (first | with_reducible rfl | ((conv => whnf); first | refine And.intro ?_ ?_ | (intro h; first | with_reducible exact tf_no h | with_reducible exact ft_no h | exact Bool.noConfusion h | with_reducible exact h | (exfalso; simp at h; done) | (have ht : true = true := h; clear ht h) | skip) | ((with_reducible refine Tri.mark ?_); first | (refine Tri.treeX [] (MX.mv 0 0 (MX.mv 0 1 (MX.mv 0 2 (MX.mv 0 3 (MX.mv 0 4 (MX.mv 0 5 (MX.mv 0 6 (MX.mv 0 7 (MX.mv 0 8 (MX.mv 0 9 (MX.mv 0 10 (MX.mv 0 11 (MX.mv 2 12 (MX.mv 0 13 MX.done)))))))))))))) ?_ (by kernel_rfl) ?_; rfl)) | ((with_reducible refine ECall.mark ?_); first | refine ECall.alt (bl false) (fun hg => absurd hg (no_gt 0)) ?_ | refine ECall.only ?_ (fun h => nomatch h) | refine ECall.only ?_ ?_) | ((with_reducible refine Drawn.mark ?_); first | (refine Drawn.tree ?_; refine Tri.treeX [] (MX.mv 0 0 (MX.mv 0 1 (MX.mv 0 2 (MX.mv 0 3 (MX.mv 0 4 (MX.mv 0 5 (MX.mv 0 6 (MX.mv 0 7 (MX.mv 0 8 (MX.mv 0 9 (MX.mv 0 10 (MX.mv 0 11 (MX.mv 2 12 (MX.mv 0 13 MX.done)))))))))))))) ?_ (by kernel_rfl) ?_; rfl) | refine Drawn.quiet (by kernel_rfl) ?_) | refine dcell_at (strV emB) (fun hg => absurd hg (no_gt 0)) ?_ | refine dcell_ok rfl ?_ | refine AppC.new ?_))
      all_goals try ((conv => whnf); with_reducible refine Round.mark ?_)
      all_goals try first | ((with_reducible show Option.isSome (slElem _ _) = true); kernel_rfl) | ((with_reducible show slElem _ _ = some _); kernel_rfl) | ((with_reducible refine enters_mark ?_); kernel_rfl) | (with_reducible assumption) | ((with_reducible show List.all _ DV.one = true); rfl) | ((with_reducible show (_ : Nat) = _); rfl) | ((with_reducible show (_ == true) = true); simpa using h) | ((with_reducible show (_ : Nat) ≤ _); exact Nat.le_of_ble_eq_true rfl) | ((with_reducible show (_ : Int) ≤ _); first | omega | decide) | ((with_reducible show (_ : Int) < _); first | omega | decide) | ((with_reducible show (_ : Nat) < _); omega) | ((with_reducible show (_ : Nat) ≤ _); omega)
      all_goals try (exact absurd h (no_gt 0); done)
      refine Round.go (fun _ => i + 1) hil (by show t.rows.length - (i + 1) < t.rows.length - i; omega) (Weak.list [(0, some 0), (1, some 1), (2, some 2), (3, some 3)] [] (by kernel_rfl) ?_ ?_)
      iterate 2 · repeat' (first | exact wsucc hil (by have := ht.rows; omega) | exact DWl.eq (congrArg (List.map strV) hb) (strV_all _) | exact DW.same _ rfl | exact DW.ref _ _ _ rfl | exact DW.arr _ _ _ rfl | exact OW.cells rfl rfl (DWl.same rfl) | refine OW.cells rfl rfl ?_ | refine DWl.cons ?_ ?_ | exact DWl.nil | exact DW.nilArr _ rfl | exact DW.nilLst _ | refine DW.clol ?_ ?_ | refine DW.aggl ?_ | refine DW.tupl ?_ | refine DW.int ?_ | refine DW.bool ?_ | refine DW.str ?_ | refine DW.arrE rfl ?_ | ((conv => whnf); first | refine And.intro ?_ ?_ | trivial))
    | succ j =>
      have hjn : j + 1 < i + 1 := by omega
      have hn : i + 1 ≤ 4096 := by have := ht.rows; omega
      have hj4 : j ≤ 4096 := by omega
      have hga : ∀ x, x < i + 1 → (l.getD x emB).size ≤ 1024 := fun x hx => hls _ (by rw [List.getD_eq_getElem?_getD, List.getElem?_eq_getElem (by omega)]; exact List.getElem_mem _)
      have hle := less24_D (l.getD (((j + 1 : Nat) : Int).toNat * 1) emB) (l.getD ((IntKind.i64.wrap (((j + 1 : Nat) : Int) - 1)).toNat * 1) emB) (hga _ (by rw [ix_1]; exact hjn)) (hga _ (by rw [ix_0 hj4]; omega))
      show dcode _ _ _ _ (gdIn t k i (j + 1, l)) _
      repeat' (first | with_reducible rfl | ((conv => whnf); first | refine And.intro ?_ ?_ | (intro h; first | with_reducible exact tf_no h | with_reducible exact ft_no h | exact Bool.noConfusion h | with_reducible exact h | (exfalso; simp at h; done) | (have ht : true = true := h; clear ht h) | skip) | ((with_reducible refine Tri.mark ?_); first | (refine Tri.treeX [] (MX.mv 0 0 (MX.mv 0 1 (MX.mv 0 2 (MX.mv 0 3 (MX.mv 0 4 (MX.mv 0 5 (MX.mv 0 6 (MX.mv 0 7 (MX.mv 0 8 (MX.mv 0 9 (MX.mv 0 10 (MX.mv 0 11 (MX.mv 2 12 (MX.mv 0 13 MX.done)))))))))))))) ?_ (by kernel_rfl) ?_; rfl)) | ((with_reducible refine ECall.mark ?_); first | refine ECall.alt (bl (lessB (l.getD (((j + 1 : Nat) : Int).toNat * 1) emB) (l.getD ((IntKind.i64.wrap (((j + 1 : Nat) : Int) - 1)).toNat * 1) emB))) (fun hg => SCall.data hle rfl rfl ?_) ?_ | refine ECall.only ?_ (fun h => nomatch h) | refine ECall.only ?_ ?_) | ((with_reducible refine Drawn.mark ?_); first | (refine Drawn.tree ?_; refine Tri.treeX [] (MX.mv 0 0 (MX.mv 0 1 (MX.mv 0 2 (MX.mv 0 3 (MX.mv 0 4 (MX.mv 0 5 (MX.mv 0 6 (MX.mv 0 7 (MX.mv 0 8 (MX.mv 0 9 (MX.mv 0 10 (MX.mv 0 11 (MX.mv 2 12 (MX.mv 0 13 MX.done)))))))))))))) ?_ (by kernel_rfl) ?_; rfl) | refine Drawn.quiet (by kernel_rfl) ?_) | refine dcell_at _ (fun _ => lc_get hl ?_) ?_ | refine dcell_ok rfl ?_ | refine AppC.new ?_))
      all_goals try ((conv => whnf); with_reducible refine Round.mark ?_)
      all_goals try (first | ((with_reducible refine enters_mark ?_); kernel_rfl) | ((with_reducible show Option.all _ _ = true); rfl) | (with_reducible exact ix_a hjn hn) | (with_reducible exact ix_b hjn hn) | (with_reducible exact ix_c hjn hn) | (with_reducible exact le_d hl hjn) | (with_reducible exact le_e hl hjn hn _ _))
      all_goals try first | ((with_reducible show Option.isSome (slElem _ _) = true); kernel_rfl) | ((with_reducible show slElem _ _ = some _); kernel_rfl) | ((with_reducible refine enters_mark ?_); kernel_rfl) | (with_reducible assumption) | ((with_reducible show List.all _ DV.one = true); rfl) | ((with_reducible show (_ : Nat) = _); rfl) | ((with_reducible show (_ == true) = true); simpa using h) | ((with_reducible show (_ : Nat) ≤ _); exact Nat.le_of_ble_eq_true rfl) | ((with_reducible show (_ : Int) ≤ _); first | omega | decide) | ((with_reducible show (_ : Int) < _); first | omega | decide) | ((with_reducible show (_ : Nat) < _); omega) | ((with_reducible show (_ : Nat) ≤ _); omega)
      · have hc := cd_is hj4 h
        refine Round.go (fun _ => (j, swL l j)) ⟨by show j ≤ i; omega, (swL_len l j).trans hl, fun s hs => hls s (swL_mem (by omega) hs), by rw [← hb, bubL_t hc]⟩ (Nat.lt_succ_self _) (Weak.list [(0, some 0), (1, some 1), (2, some 2), (3, some 3)] [] (by kernel_rfl) ?_ ?_)
        iterate 2 · repeat' (first | exact ix_w hj4 | exact DWl.eq (sw_eq hj4) (strV_all _) | exact DW.same _ rfl | exact DW.ref _ _ _ rfl | exact DW.arr _ _ _ rfl | exact OW.cells rfl rfl (DWl.same rfl) | refine OW.cells rfl rfl ?_ | refine DWl.cons ?_ ?_ | exact DWl.nil | exact DW.nilArr _ rfl | exact DW.nilLst _ | refine DW.clol ?_ ?_ | refine DW.aggl ?_ | refine DW.tupl ?_ | refine DW.int ?_ | refine DW.bool ?_ | refine DW.str ?_ | refine DW.arrE rfl ?_ | ((conv => whnf); first | refine And.intro ?_ ?_ | trivial))
      · have hc := cd_is hj4 h
        refine Round.go (fun _ => i + 1) hil (by show t.rows.length - (i + 1) < t.rows.length - i; omega) (Weak.list [(0, some 0), (1, some 1), (2, some 2), (3, some 3)] [] (by kernel_rfl) ?_ ?_)
        iterate 2 · repeat' (first | exact wsucc hil (by have := ht.rows; omega) | exact DWl.eq (congrArg (List.map strV) ((bubL_f hc).symm.trans hb)) (strV_all _) | exact DW.same _ rfl | exact DW.ref _ _ _ rfl | exact DW.arr _ _ _ rfl | exact OW.cells rfl rfl (DWl.same rfl) | refine OW.cells rfl rfl ?_ | refine DWl.cons ?_ ?_ | exact DWl.nil | exact DW.nilArr _ rfl | exact DW.nilLst _ | refine DW.clol ?_ ?_ | refine DW.aggl ?_ | refine DW.tupl ?_ | refine DW.int ?_ | refine DW.bool ?_ | refine DW.str ?_ | refine DW.arrE rfl ?_ | ((conv => whnf); first | refine And.intro ?_ ?_ | trivial))
  · have hi2 : i = t.rows.length := by omega
    have hls := insL_small ht hk hi
    have hlen := insL_len t k i
    repeat' (first | with_reducible rfl | ((conv => whnf); first | refine And.intro ?_ ?_ | (intro h; first | with_reducible exact tf_no h | with_reducible exact ft_no h | exact Bool.noConfusion h | with_reducible exact h | (exfalso; exact hil (by rw [List.length_map] at h; exact lt_int h)) | (have ht : true = true := h; clear ht h) | skip) | ((with_reducible refine ECall.mark ?_); first | refine ECall.only ?_ (fun h => nomatch h) | refine ECall.only ?_ ?_) | ((with_reducible refine Drawn.mark ?_); first | refine Drawn.quiet (by kernel_rfl) ?_) | refine dcell_ok rfl ?_ | refine AppC.new ?_))
    all_goals try first | ((with_reducible show Option.isSome (slElem _ _) = true); kernel_rfl) | ((with_reducible show slElem _ _ = some _); kernel_rfl) | ((with_reducible refine enters_mark ?_); kernel_rfl) | (with_reducible assumption) | ((with_reducible show List.all _ DV.one = true); rfl) | ((with_reducible show (_ : Nat) = _); rfl) | ((with_reducible show (_ == true) = true); simpa using h) | ((with_reducible show (_ : Nat) ≤ _); exact Nat.le_of_ble_eq_true rfl) | ((with_reducible show (_ : Int) ≤ _); first | omega | decide) | ((with_reducible show (_ : Int) < _); first | omega | decide) | ((with_reducible show (_ : Nat) < _); omega) | ((with_reducible show (_ : Nat) ≤ _); omega)
    conv => whnf
    generalize hLe : insL t k i = L at hls hlen
    refine Tri.loop (geSt t k L) (fun j => j ≤ L.length) (fun j => L.length - j) 0 (by kernel_rfl) (Weak.list [(0, some 1), (1, some 2), (2, some 3), (3, none)] [] (by kernel_rfl) ?_ ?_) (Nat.zero_le _) ?_
    iterate 2 · repeat' (first | exact DW.nilArr _ rfl | exact hlen.symm | exact DWl.eq (congrArg (List.map strV) hLe) (strV_all _) | exact DW.same _ rfl | exact DW.ref _ _ _ rfl | exact DW.arr _ _ _ rfl | exact OW.cells rfl rfl (DWl.same rfl) | refine OW.cells rfl rfl ?_ | refine DWl.cons ?_ ?_ | exact DWl.nil | exact DW.nilArr _ rfl | exact DW.nilLst _ | refine DW.clol ?_ ?_ | refine DW.aggl ?_ | refine DW.tupl ?_ | refine DW.int ?_ | refine DW.bool ?_ | refine DW.str ?_ | refine DW.arrE rfl ?_ | ((conv => whnf); first | refine And.intro ?_ ?_ | trivial))
    intro j hj
    have hj : j ≤ L.length := hj
    have hL4 : L.length ≤ 4096 := by omega
    have hj4 : j ≤ 4096 := by omega
    show dcode _ _ _ _ (geSt t k L j) _
    by_cases hjl : j < L.length
    · have hit := itoa60_D (IntKind.i64.wrap (((rnC L j : Nat) : Int) + 1)) (by rw [rn_w hL4 hjl]; omega) (by rw [rn_w hL4 hjl]; have := rnC_le L j; omega)
      repeat' (first | with_reducible rfl | ((conv => whnf); first | refine And.intro ?_ ?_ | (intro h; first | with_reducible exact tf_no h | with_reducible exact ft_no h | exact Bool.noConfusion h | with_reducible exact h | (exfalso; exact of_decide_eq_false h (Int.ofNat_lt.2 hjl)) | (have ht : true = true := h; clear ht h) | skip) | ((with_reducible refine SCall.mark ?_); first | refine SCall.data (hit) rfl rfl ?_ | refine SCall.scal (hit) rfl rfl ?_) | ((with_reducible refine PCall.mark ?_); first | refine PCall.mk (hit) rfl rfl ?_) | ((with_reducible refine GCall.mark ?_); first | refine GCall.data (fun _ => hit) rfl rfl ?_ | refine GCall.scal (fun _ => hit) rfl rfl ?_) | ((with_reducible refine MCall.mark ?_); first | refine MCall.data (fun _ => hit) rfl rfl ?_ | refine MCall.plain (PCall.mk (hit) rfl rfl ?_)) | ((with_reducible refine Tri.mark ?_); first | (refine Tri.treeX [1, 3] (MX.mv 0 0 (MX.mv 0 2 (MX.mv 0 3 (MX.mv 0 4 (MX.mv 0 5 (MX.mv 0 6 (MX.two 1 1 (MX.mv 2 7 (MX.mv 1 8 (MX.mv 1 9 (MX.mv 1 10 (MX.mv 1 11 (MX.mv 1 12 MX.done)))))) 2 7 (MX.two 1 1 (MX.mv 1 8 (MX.mv 1 9 (MX.mv 1 10 (MX.mv 1 11 (MX.mv 1 12 MX.done))))) 1 8 (MX.two 1 1 (MX.mv 1 9 (MX.mv 1 10 (MX.mv 1 11 (MX.mv 1 12 MX.done)))) 1 9 (MX.mv 1 1 (MX.mv 1 10 (MX.mv 1 11 (MX.mv 1 12 MX.done))))))))))))) ?_ (by kernel_rfl) ?_; rfl)) | ((with_reducible refine ECall.mark ?_); first | refine ECall.only ?_ (fun h => nomatch h) | refine ECall.only ?_ ?_) | ((with_reducible refine Drawn.mark ?_); first | (refine Drawn.tree ?_; refine Tri.treeX [1, 3] (MX.mv 0 0 (MX.mv 0 2 (MX.mv 0 3 (MX.mv 0 4 (MX.mv 0 5 (MX.mv 0 6 (MX.two 1 1 (MX.mv 2 7 (MX.mv 1 8 (MX.mv 1 9 (MX.mv 1 10 (MX.mv 1 11 (MX.mv 1 12 MX.done)))))) 2 7 (MX.two 1 1 (MX.mv 1 8 (MX.mv 1 9 (MX.mv 1 10 (MX.mv 1 11 (MX.mv 1 12 MX.done))))) 1 8 (MX.two 1 1 (MX.mv 1 9 (MX.mv 1 10 (MX.mv 1 11 (MX.mv 1 12 MX.done)))) 1 9 (MX.mv 1 1 (MX.mv 1 10 (MX.mv 1 11 (MX.mv 1 12 MX.done))))))))))))) ?_ (by kernel_rfl) ?_; rfl) | refine Drawn.quiet (by kernel_rfl) ?_) | refine dcell_ok rfl ?_ | refine dcell_at _ (fun hg => lc_get rfl (kb1 hL4 hjl hg)) ?_ | refine dcell_at _ (fun _ => lc_get rfl (kb0 hjl)) ?_ | refine dcell_ok rfl ?_ | refine AppC.new ?_))
      all_goals try ((conv => whnf); with_reducible refine Round.mark ?_)
      all_goals try first | ((with_reducible show Option.isSome (slElem _ _) = true); kernel_rfl) | ((with_reducible show slElem _ _ = some _); kernel_rfl) | ((with_reducible refine enters_mark ?_); kernel_rfl) | (with_reducible assumption) | ((with_reducible show List.all _ DV.one = true); rfl) | ((with_reducible show (_ : Nat) = _); rfl) | ((with_reducible show (_ == true) = true); simpa using h) | ((with_reducible show (_ : Nat) ≤ _); exact Nat.le_of_ble_eq_true rfl) | ((with_reducible show (_ : Int) ≤ _); first | omega | decide) | ((with_reducible show (_ : Int) < _); first | omega | decide) | ((with_reducible show (_ : Nat) < _); omega) | ((with_reducible show (_ : Nat) ≤ _); omega)
      all_goals try (first | ((with_reducible show Option.all _ _ = true); rfl) | (with_reducible exact tnb h) | (with_reducible exact kb2 hL4 hjl) | (with_reducible exact kb3 hL4 hjl (by assumption)) | (with_reducible exact rn_1 L j) | (with_reducible exact rn_2 hj4) | (with_reducible exact rn_3 hj4))
      · have hb := bk_is hL4 hjl (by assumption)
        refine Round.go (fun _ => j + 1) hjl (by show L.length - (j + 1) < L.length - j; omega) (Weak.list [(0, some 0), (1, some 1), (2, some 2), (3, some 6)] [4] (by kernel_rfl) ?_ ?_)
        iterate 2 · repeat' (first | exact wsucc hjl (by omega) | exact rn_0 hb | exact rn_len hb | exact OW.cells rfl rfl (DWl.same (strV_all _)) | exact DWl.snocE (rn_push hL4 hjl hb) (take_all (rowsC_all _) _) (DW.pubE rfl rfl (Nat.zero_lt_succ _) (List.mem_singleton.2 rfl) rfl strRow rfl) | exact DW.same _ rfl | exact DW.ref _ _ _ rfl | exact DW.arr _ _ _ rfl | exact OW.cells rfl rfl (DWl.same rfl) | refine OW.cells rfl rfl ?_ | refine DWl.cons ?_ ?_ | exact DWl.nil | exact DW.nilArr _ rfl | exact DW.nilLst _ | refine DW.clol ?_ ?_ | refine DW.aggl ?_ | refine DW.tupl ?_ | refine DW.int ?_ | refine DW.bool ?_ | refine DW.str ?_ | refine DW.arrE rfl ?_ | ((conv => whnf); first | refine And.intro ?_ ?_ | trivial))
      · have hb := bk_is hL4 hjl (by assumption)
        refine Round.go (fun _ => j + 1) hjl (by show L.length - (j + 1) < L.length - j; omega) (Weak.list [(0, some 0), (1, some 1), (2, some 2), (3, some 6)] [4] (by kernel_rfl) ?_ ?_)
        iterate 2 · repeat' (first | exact wsucc hjl (by omega) | exact rn_0 hb | exact rn_len hb | exact OW.cells rfl rfl (DWl.same (strV_all _)) | exact DWl.snocE (rn_push hL4 hjl hb) (take_all (rowsC_all _) _) (DW.pubE rfl rfl (Nat.zero_lt_succ _) (List.mem_singleton.2 rfl) rfl strRow rfl) | exact DW.same _ rfl | exact DW.ref _ _ _ rfl | exact DW.arr _ _ _ rfl | exact OW.cells rfl rfl (DWl.same rfl) | refine OW.cells rfl rfl ?_ | refine DWl.cons ?_ ?_ | exact DWl.nil | exact DW.nilArr _ rfl | exact DW.nilLst _ | refine DW.clol ?_ ?_ | refine DW.aggl ?_ | refine DW.tupl ?_ | refine DW.int ?_ | refine DW.bool ?_ | refine DW.str ?_ | refine DW.arrE rfl ?_ | ((conv => whnf); first | refine And.intro ?_ ?_ | trivial))
      · have hb := bk_is hL4 hjl (by assumption)
        refine Round.go (fun _ => j + 1) hjl (by show L.length - (j + 1) < L.length - j; omega) (Weak.list [(0, some 0), (1, some 1), (2, some 2), (3, some 6)] [4] (by kernel_rfl) ?_ ?_)
        iterate 2 · repeat' (first | exact wsucc hjl (by omega) | exact rn_0 hb | exact rn_len hb | exact OW.cells rfl rfl (DWl.same (strV_all _)) | exact DWl.snocE (rn_push hL4 hjl hb) (take_all (rowsC_all _) _) (DW.pubE rfl rfl (Nat.zero_lt_succ _) (List.mem_singleton.2 rfl) rfl strRow rfl) | exact DW.same _ rfl | exact DW.ref _ _ _ rfl | exact DW.arr _ _ _ rfl | exact OW.cells rfl rfl (DWl.same rfl) | refine OW.cells rfl rfl ?_ | refine DWl.cons ?_ ?_ | exact DWl.nil | exact DW.nilArr _ rfl | exact DW.nilLst _ | refine DW.clol ?_ ?_ | refine DW.aggl ?_ | refine DW.tupl ?_ | refine DW.int ?_ | refine DW.bool ?_ | refine DW.str ?_ | refine DW.arrE rfl ?_ | ((conv => whnf); first | refine And.intro ?_ ?_ | trivial))
      · have hb := bk_is hL4 hjl (by assumption)
        refine Round.go (fun _ => j + 1) hjl (by show L.length - (j + 1) < L.length - j; omega) (Weak.list [(0, some 0), (1, some 1), (2, some 2), (3, some 6)] [4] (by kernel_rfl) ?_ ?_)
        iterate 2 · repeat' (first | exact wsucc hjl (by omega) | exact rn_0 hb | exact rn_len hb | exact OW.cells rfl rfl (DWl.same (strV_all _)) | exact DWl.snocE (rn_push hL4 hjl hb) (take_all (rowsC_all _) _) (DW.pubE rfl rfl (Nat.zero_lt_succ _) (List.mem_singleton.2 rfl) rfl strRow rfl) | exact DW.same _ rfl | exact DW.ref _ _ _ rfl | exact DW.arr _ _ _ rfl | exact OW.cells rfl rfl (DWl.same rfl) | refine OW.cells rfl rfl ?_ | refine DWl.cons ?_ ?_ | exact DWl.nil | exact DW.nilArr _ rfl | exact DW.nilLst _ | refine DW.clol ?_ ?_ | refine DW.aggl ?_ | refine DW.tupl ?_ | refine DW.int ?_ | refine DW.bool ?_ | refine DW.str ?_ | refine DW.arrE rfl ?_ | ((conv => whnf); first | refine And.intro ?_ ?_ | trivial))
      · have hb := bk_is hL4 hjl h
        refine Round.go (fun _ => j + 1) hjl (by show L.length - (j + 1) < L.length - j; omega) (Weak.list [(0, some 0), (1, some 1), (2, some 2), (3, some 3)] [] (by kernel_rfl) ?_ ?_)
        iterate 2 · repeat' (first | exact wsucc hjl (by omega) | exact rn_s hL4 hjl hb | exact (congrArg List.length (rn_f hb)).symm | exact OW.cells rfl rfl (DWl.same (strV_all _)) | exact DWl.eq (congrArg rowsC (rn_f hb).symm) (rowsC_all _) | exact DW.same _ rfl | exact DW.ref _ _ _ rfl | exact DW.arr _ _ _ rfl | exact OW.cells rfl rfl (DWl.same rfl) | refine OW.cells rfl rfl ?_ | refine DWl.cons ?_ ?_ | exact DWl.nil | exact DW.nilArr _ rfl | exact DW.nilLst _ | refine DW.clol ?_ ?_ | refine DW.aggl ?_ | refine DW.tupl ?_ | refine DW.int ?_ | refine DW.bool ?_ | refine DW.str ?_ | refine DW.arrE rfl ?_ | ((conv => whnf); first | refine And.intro ?_ ?_ | trivial))
    · have hj2 : j = L.length := by omega
      subst hj2
      have hR : groupG t k = ⟨[t.head.getD k emB, cntB], rnR L L.length⟩ := by
        unfold groupG; rw [← hi2, hLe]
      repeat' (first | with_reducible rfl | ((conv => whnf); first | refine And.intro ?_ ?_ | (intro h; first | with_reducible exact tf_no h | with_reducible exact ft_no h | exact Bool.noConfusion h | with_reducible exact h | (exfalso; exact hjl (lt_int h)) | (have ht : true = true := h; clear ht h) | skip) | ((with_reducible refine ECall.mark ?_); first | refine ECall.only ?_ (fun h => nomatch h) | refine ECall.only ?_ ?_) | ((with_reducible refine Drawn.mark ?_); first | refine Drawn.quiet (by kernel_rfl) ?_) | refine dcell_ok rfl ?_ | refine AppC.new ?_))
      all_goals try first | ((with_reducible show Option.isSome (slElem _ _) = true); kernel_rfl) | ((with_reducible show slElem _ _ = some _); kernel_rfl) | ((with_reducible refine enters_mark ?_); kernel_rfl) | (with_reducible assumption) | ((with_reducible show List.all _ DV.one = true); rfl) | ((with_reducible show (_ : Nat) = _); rfl) | ((with_reducible show (_ == true) = true); simpa using h) | ((with_reducible show (_ : Nat) ≤ _); exact Nat.le_of_ble_eq_true rfl) | ((with_reducible show (_ : Int) ≤ _); first | omega | decide) | ((with_reducible show (_ : Int) < _); first | omega | decide) | ((with_reducible show (_ : Nat) < _); omega) | ((with_reducible show (_ : Nat) ≤ _); omega)
      conv => whnf
      exact Tells.of (congrArg (fun x => DV.tup [tab x, int1 0]) hR) (Tells.mk (DW.tupl (DWl.cons (DW.aggl (DWl.cons (DW.same _ rfl) (DWl.cons (DW.pubM (l := rnR L L.length) (f := rowD) rfl rfl rfl rfl rowRow (rowsC_eq _)) DWl.nil))) (DWl.cons (DW.same _ rfl) DWl.nil))))
set_option maxRecDepth 20000 in
theorem group30_bad (t : Tb) (by_ : Int) (h1 : by_ < 0 ∨ (t.head.length : Int) ≤ by_) : DPure Tryz.prog 30 [tab t, int1 by_] (.tup [tab ⟨[], []⟩, int1 31]) := by
  have t1 := grp_bad (t := t) h1
  refine DFun.data (DFun.body Tryz.func30 rfl (by kernel_rfl) ?_)
  repeat' (first | with_reducible rfl | ((conv => whnf); first | refine And.intro ?_ ?_ | (intro h; first | with_reducible exact tf_no h | with_reducible exact ft_no h | exact Bool.noConfusion h | with_reducible exact h | (exfalso; exact bt_x t1 h) | (have ht : true = true := h; clear ht h) | skip) | ((with_reducible refine ECall.mark ?_); first | refine ECall.only ?_ (fun h => nomatch h) | refine ECall.only ?_ ?_) | ((with_reducible refine Drawn.mark ?_); first | refine Drawn.quiet (by kernel_rfl) ?_) | refine dcell_ok rfl ?_ | refine AppC.new ?_))
  all_goals try first | ((with_reducible show Option.isSome (slElem _ _) = true); kernel_rfl) | ((with_reducible show slElem _ _ = some _); kernel_rfl) | ((with_reducible refine enters_mark ?_); kernel_rfl) | (with_reducible assumption) | ((with_reducible show List.all _ DV.one = true); rfl) | ((with_reducible show (_ : Nat) = _); rfl) | ((with_reducible show (_ == true) = true); simpa using h) | ((with_reducible show (_ : Nat) ≤ _); exact Nat.le_of_ble_eq_true rfl) | ((with_reducible show (_ : Int) ≤ _); first | omega | decide) | ((with_reducible show (_ : Int) < _); first | omega | decide) | ((with_reducible show (_ : Nat) < _); omega) | ((with_reducible show (_ : Nat) ≤ _); omega)
  all_goals try (first | (with_reducible exact tnb h))
  conv => whnf
  exact Tells.mk (DW.tupl (DWl.cons (DW.aggl (DWl.cons (DW.nilLst _) (DWl.cons (DW.nilLst _) DWl.nil))) (DWl.cons (DW.same _ rfl) DWl.nil)))
end Go.Proofs.YtlchjjchgebfiaaGreatDoor

namespace Go.Proofs.YtlchjjchgebfiaaGreatDoor
open Go.Dl
def insRev : List ByteArray → ByteArray → List ByteArray
  | [], x => [x]
  | a :: r, x => bif lessB x a then a :: insRev r x else x :: a :: r
theorem at_mid (A : List ByteArray) (a : ByteArray) (S : List ByteArray) : (A ++ a :: S).getD A.length emB = a := by
  rw [List.getD_eq_getElem?_getD, List.getElem?_append_right (Nat.le_refl _), Nat.sub_self]; rfl
theorem at_mid1 (A : List ByteArray) (a x : ByteArray) (S : List ByteArray) : (A ++ a :: x :: S).getD (A.length + 1) emB = x := by
  rw [List.getD_eq_getElem?_getD, List.getElem?_append_right (Nat.le_add_right _ 1), Nat.add_sub_cancel_left]; rfl
theorem sw_mid (A : List ByteArray) (a x : ByteArray) (S : List ByteArray) : swL (A ++ a :: x :: S) A.length = A ++ x :: a :: S := by
  rw [swL, at_mid, at_mid1, List.set_append_right _ _ (Nat.le_add_right _ 1), List.set_append_right _ _ (Nat.le_refl _), Nat.add_sub_cancel_left, Nat.sub_self]; rfl
theorem bub_ins : ∀ (r : List ByteArray) (x : ByteArray) (S : List ByteArray), bubL r.length (r.reverse ++ x :: S) = (insRev r x).reverse ++ S
  | [], x, S => rfl
  | a :: r, x, S => by
    have e : (a :: r).reverse ++ x :: S = r.reverse ++ a :: x :: S := by rw [List.reverse_cons, List.append_assoc]; rfl
    have hl : r.length = r.reverse.length := List.length_reverse.symm
    rw [e, List.length_cons, bubL, insRev]
    have h1 : (r.reverse ++ a :: x :: S).getD (r.length + 1) emB = x := by rw [hl]; exact at_mid1 _ _ _ _
    have h2 : (r.reverse ++ a :: x :: S).getD r.length emB = a := by rw [hl]; exact at_mid _ _ _
    have h3 : swL (r.reverse ++ a :: x :: S) r.length = r.reverse ++ x :: a :: S := by rw [hl]; exact sw_mid _ _ _ _
    rw [h1, h2]
    cases lessB x a with
    | true =>
      rw [cond_true, cond_true, h3, bub_ins r x (a :: S), List.reverse_cons, List.append_assoc]; rfl
    | false =>
      rw [cond_false, cond_false, List.reverse_cons, List.reverse_cons, List.append_assoc, List.append_assoc]; rfl
def revL (t : Tb) (k : Nat) : Nat → List ByteArray
  | 0 => []
  | i + 1 => insRev (revL t k i) (celA t k i)
theorem ins_rev (t : Tb) (k : Nat) : ∀ i, insL t k i = (revL t k i).reverse
  | 0 => rfl
  | i + 1 => by
    have h1 := ins_rev t k i
    have h2 : i = (revL t k i).length := by rw [← List.length_reverse, ← h1, insL_len]
    have h3 := bub_ins (revL t k i) (celA t k i) []
    rw [← h2, List.append_nil] at h3
    rw [insL, revL, h1, ← h3]
theorem insRev_perm : ∀ (r : List ByteArray) (x : ByteArray), (insRev r x).Perm (x :: r)
  | [], x => .refl _
  | a :: r, x => by
    rw [insRev]
    cases lessB x a with
    | true => exact ((insRev_perm r x).cons a).trans (.swap x a r)
    | false => exact .refl _
theorem insRev_down : ∀ {r : List ByteArray} {x : ByteArray}, r.Pairwise (fun a b => lessB a b = false) → (insRev r x).Pairwise (fun a b => lessB a b = false)
  | [], x, _ => List.pairwise_singleton _ _
  | a :: r, x, h => by
    rw [List.pairwise_cons] at h
    rw [insRev]
    cases hx : lessB x a with
    | true =>
      rw [cond_true, List.pairwise_cons]
      refine ⟨fun b hb => ?_, insRev_down h.2⟩
      rcases List.mem_cons.1 ((insRev_perm r x).mem_iff.1 hb) with rfl | hb
      · exact less_asym hx
      · exact h.1 b hb
    | false =>
      rw [cond_false, List.pairwise_cons, List.pairwise_cons]
      refine ⟨fun b hb => ?_, h⟩
      rcases List.mem_cons.1 hb with rfl | hb
      · exact hx
      · exact less_neg hx (h.1 b hb)
theorem revL_down (t : Tb) (k : Nat) : ∀ i, (revL t k i).Pairwise (fun a b => lessB a b = false)
  | 0 => List.Pairwise.nil
  | i + 1 => insRev_down (revL_down t k i)
theorem insL_perm (t : Tb) (k i : Nat) : (insL t k (i + 1)).Perm (celA t k i :: insL t k i) := by
  rw [ins_rev, ins_rev]
  exact ((List.reverse_perm _).trans (insRev_perm _ _)).trans ((List.reverse_perm _).symm.cons _)
def Up (L : List ByteArray) : Prop := ∀ a b, a ≤ b → b < L.length → lessB (L.getD b emB) (L.getD a emB) = false
theorem insL_up (t : Tb) (k i : Nat) : Up (insL t k i) := by
  have h : (insL t k i).Pairwise (fun a b => lessB b a = false) := by rw [ins_rev, List.pairwise_reverse]; exact revL_down t k i
  intro a b hab hb
  rcases Nat.eq_or_lt_of_le hab with rfl | hlt
  · exact less_irr _
  · rw [List.getD_eq_getElem?_getD, List.getD_eq_getElem?_getD, List.getElem?_eq_getElem hb, List.getElem?_eq_getElem (by omega)]
    exact List.pairwise_iff_getElem.1 h a b (by omega) hb hlt
def cP (s : ByteArray) (l : List ByteArray) : Nat := l.countP fun a => s == a
theorem cP_cons (s a : ByteArray) (l : List ByteArray) : cP s (a :: l) = bif s == a then cP s l + 1 else cP s l := by
  unfold cP
  rw [List.countP_cons]
  cases s == a <;> rfl
theorem cP_app (s : ByteArray) (l m : List ByteArray) : cP s (l ++ m) = cP s l + cP s m := List.countP_append
theorem cP_zero {s : ByteArray} {l : List ByteArray} (h : ∀ a ∈ l, a ≠ s) : cP s l = 0 := by
  unfold cP
  rw [List.countP_eq_zero]
  intro a ha hb
  exact h a ha (ba_eq.1 hb).symm
theorem cP_mem {s : ByteArray} {l : List ByteArray} : 0 < cP s l ↔ s ∈ l := by
  unfold cP
  rw [List.countP_pos_iff]
  exact ⟨fun ⟨a, h1, h2⟩ => by rw [ba_eq.1 h2]; exact h1, fun h => ⟨s, h, ba_eq.2 rfl⟩⟩
theorem cnt_is (t : Tb) (k : Nat) (s : ByteArray) : ∀ i, getS s (cntI t k i) = ((cP s (insL t k i) : Nat) : Int)
  | 0 => rfl
  | i + 1 => by
    have hp : cP s (insL t k (i + 1)) = cP s (celA t k i :: insL t k i) := (insL_perm t k i).countP_eq _
    rw [hp, cP_cons, cntI, get_put]
    cases h : s == celA t k i with
    | true => rw [cond_true, cond_true, ← ba_eq.1 h, cnt_is t k s i]; rfl
    | false => rw [cond_false, cond_false, cnt_is t k s i]
theorem keys_mem (t : Tb) (k : Nat) (s : ByteArray) : ∀ i, s ∈ keysI t k i ↔ s ∈ insL t k i
  | 0 => Iff.rfl
  | i + 1 => by
    rw [(insL_perm t k i).mem_iff, List.mem_cons, ← keys_mem t k s i]
    by_cases hz : getS (celA t k i) (cntI t k i) = 0
    · rw [keys_t hz, List.mem_append, List.mem_singleton]; exact Or.comm
    · rw [keys_f hz]
      refine ⟨.inr, fun h => ?_⟩
      rcases h with rfl | h
      · refine (keys_mem t k _ i).2 (cP_mem.1 ?_)
        have := cnt_is t k (celA t k i) i
        omega
      · exact h
theorem keys_nodup (t : Tb) (k : Nat) : ∀ i, (keysI t k i).Nodup
  | 0 => List.nodup_nil
  | i + 1 => by
    by_cases hz : getS (celA t k i) (cntI t k i) = 0
    · rw [keys_t hz]
      refine List.nodup_append.2 ⟨keys_nodup t k i, List.pairwise_singleton _ _, fun a ha b hb e => ?_⟩
      rw [List.mem_singleton] at hb
      subst e hb
      have := cP_mem.2 ((keys_mem t k _ i).1 ha)
      have h2 := cnt_is t k (celA t k i) i
      omega
    · rw [keys_f hz]; exact keys_nodup t k i
def Inc (l : List ByteArray) : Prop := l.Pairwise fun a b => lessB a b = true
theorem inc_one : ∀ {l m : List ByteArray}, Inc l → Inc m → (∀ s, s ∈ l ↔ s ∈ m) → l = m
  | [], m, _, _, h => by
    cases m with
    | nil => rfl
    | cons b m => exact absurd ((h b).2 List.mem_cons_self) (by simp)
  | a :: l, m, hl, hm, h => by
    cases m with
    | nil => exact absurd ((h a).1 List.mem_cons_self) (by simp)
    | cons b m =>
      have hl := List.pairwise_cons.1 hl
      have hm := List.pairwise_cons.1 hm
      have e : a = b := by
        rcases List.mem_cons.1 ((h a).1 List.mem_cons_self) with e | h1
        · exact e
        rcases List.mem_cons.1 ((h b).2 List.mem_cons_self) with e | h2
        · exact e.symm
        have := less_asym (hm.1 a h1)
        rw [hl.1 b h2] at this; cases this
      subst e
      have ne : ∀ {s : ByteArray} {l : List ByteArray}, (∀ a' ∈ l, lessB a a' = true) → s ∈ l → s ≠ a := fun h1 h2 e => by
        have := h1 _ h2
        rw [e, less_irr] at this; cases this
      refine congrArg (a :: ·) (inc_one hl.2 hm.2 fun s => ⟨fun h1 => ?_, fun h1 => ?_⟩)
      · rcases List.mem_cons.1 ((h s).1 (List.mem_cons_of_mem _ h1)) with e | h2
        · exact absurd e (ne hl.1 h1)
        · exact h2
      · rcases List.mem_cons.1 ((h s).2 (List.mem_cons_of_mem _ h1)) with e | h2
        · exact absurd e (ne hm.1 h1)
        · exact h2
theorem sortB_perm (l : List ByteArray) : (sortB l).Perm l := List.mergeSort_perm _ _
theorem sortB_inc {l : List ByteArray} (hn : l.Nodup) : Inc (sortB l) := by
  have h1 : (sortB l).Pairwise (fun a b => (!lessB b a) = true) := by
    refine List.pairwise_mergeSort (fun a b c h1 h2 => ?_) (fun a b => ?_) l
    · rw [Bool.not_eq_true'] at *
      exact less_neg h2 h1
    · cases h : lessB b a with
      | false => rfl
      | true => rw [less_asym h]; rfl
  have h2 : (sortB l).Pairwise (· ≠ ·) := (sortB_perm l).nodup_iff.2 hn
  refine (h1.and h2).imp fun {a b} h => ?_
  cases h3 : lessB a b with
  | true => rfl
  | false => exact absurd (less_tot h3 (by simpa using h.1)) h.2
end Go.Proofs.YtlchjjchgebfiaaGreatDoor
namespace Go.Proofs.YtlchjjchgebfiaaGreatDoor
open Go.Dl
def kR (L : List ByteArray) : Nat → List ByteArray
  | 0 => []
  | j + 1 => bif brk L j then kR L j ++ [L.getD j emB] else kR L j
theorem tk_mem {L : List ByteArray} {s : ByteArray} {j : Nat} (h : s ∈ L.take j) : ∃ a, a < j ∧ a < L.length ∧ L.getD a emB = s := by
  obtain ⟨a, ha⟩ := List.mem_iff_getElem?.1 h
  rw [List.getElem?_take] at ha
  split at ha
  · exact ⟨a, by assumption, (List.getElem?_eq_some_iff.1 ha).1, by rw [List.getD_eq_getElem?_getD, ha]; rfl⟩
  · cases ha
theorem dr_mem {L : List ByteArray} {s : ByteArray} {j : Nat} (h : s ∈ L.drop j) : ∃ a, j ≤ a ∧ a < L.length ∧ L.getD a emB = s := by
  obtain ⟨a, ha⟩ := List.mem_iff_getElem?.1 h
  rw [List.getElem?_drop] at ha
  exact ⟨j + a, Nat.le_add_right _ _, (List.getElem?_eq_some_iff.1 ha).1, by rw [List.getD_eq_getElem?_getD, ha]; rfl⟩
theorem tk_succ {L : List ByteArray} {j : Nat} (h : j < L.length) : L.take (j + 1) = L.take j ++ [L.getD j emB] := by
  rw [List.take_succ_eq_append_getElem h, List.getD_eq_getElem?_getD, List.getElem?_eq_getElem h]; rfl
theorem brk_f {L : List ByteArray} {j : Nat} (hj : j < L.length) (h : brk L j = false) : j + 1 < L.length ∧ L.getD (j + 1) emB = L.getD j emB := by
  unfold brk at h
  cases h1 : ((j + 1 : Nat) : Int) == ((L.length : Nat) : Int) with
  | true => rw [h1] at h; cases h
  | false =>
    rw [h1, cond_false] at h
    have h2 := beq_eq_false_iff_ne.1 h1
    refine ⟨by omega, ?_⟩
    have h3 : (L.getD (j + 1) emB == L.getD j emB) = true := by
      unfold bne at h
      cases h4 : L.getD (j + 1) emB == L.getD j emB with
      | true => rfl
      | false => rw [h4] at h; cases h
    exact ba_eq.1 h3
theorem brk_t {L : List ByteArray} {j : Nat} (h : brk L j = true) : j + 1 < L.length → L.getD (j + 1) emB ≠ L.getD j emB := by
  intro hlt e
  unfold brk at h
  rw [show (((j + 1 : Nat) : Int) == ((L.length : Nat) : Int)) = false from beq_eq_false_iff_ne.2 (by omega), cond_false, e] at h
  unfold bne at h
  rw [ba_eq.2 rfl] at h; cases h
theorem lt_of {a b : ByteArray} (h : lessB b a = false) (hn : a ≠ b) : lessB a b = true := by
  cases h2 : lessB a b with
  | true => rfl
  | false => exact absurd (less_tot h2 h) hn
structure Rn (L : List ByteArray) (j : Nat) : Prop where
  cnt : j < L.length → rnC L j = cP (L.getD j emB) (L.take j)
  mem : ∀ s, s ∈ kR L j ↔ s ∈ L.take j ∧ (j < L.length → s ≠ L.getD j emB)
  inc : Inc (kR L j)
  row : rnR L j = (kR L j).map fun s => [s, numB ((cP s L : Nat) : Int)]
theorem rn_step {L : List ByteArray} (hu : Up L) {j : Nat} (hj : j < L.length) (r : Rn L j) : Rn L (j + 1) := by
  have hc := r.cnt hj
  generalize hx : L.getD j emB = x at hc
  have hcx : rnC L j + 1 = cP x (L.take (j + 1)) := by
    rw [tk_succ hj, cP_app, hx, ← hc, cP_cons, ba_eq.2 rfl]; rfl
  have hlow : ∀ {s}, s ∈ L.take j → s ≠ x → lessB s x = true := fun {s} hs hne => by
    obtain ⟨a, h1, h2, h3⟩ := tk_mem hs
    have := hu a j (Nat.le_of_lt h1) hj
    rw [h3, hx] at this
    exact lt_of this hne
  cases hb : brk L j with
  | true =>
    have hn : j + 1 < L.length → lessB x (L.getD (j + 1) emB) = true := fun hlt => by
      have h1 := hu j (j + 1) (Nat.le_succ j) hlt
      have h2 := brk_t hb hlt
      rw [hx] at h1 h2
      exact lt_of h1 h2.symm
    have hup : ∀ {b}, j + 1 ≤ b → b < L.length → lessB x (L.getD b emB) = true := fun {b} h1 h2 => by
      have h3 := hn (by omega)
      have h4 := hu (j + 1) b h1 h2
      cases h5 : lessB x (L.getD b emB) with
      | true => rfl
      | false => rw [less_neg h5 h4] at h3; cases h3
    have hall : cP x L = rnC L j + 1 := by
      have h1 : cP x L = cP x (L.take (j + 1)) + cP x (L.drop (j + 1)) := by rw [← cP_app, List.take_append_drop]
      rw [h1, ← hcx, cP_zero (s := x) (l := L.drop (j + 1))]
      · intro a ha e
        obtain ⟨b, h2, h3, h4⟩ := dr_mem ha
        have := hup h2 h3
        rw [h4, e, less_irr] at this; cases this
    have hk : kR L (j + 1) = kR L j ++ [x] := by rw [kR, hb, cond_true, hx]
    have hle : ∀ {s}, s ∈ L.take (j + 1) → lessB x s = false := fun {s} hs => by
      obtain ⟨a, h1, h2, h3⟩ := tk_mem hs
      have := hu a j (Nat.le_of_lt_succ h1) hj
      rw [h3, hx] at this; exact this
    refine ⟨fun hlt => ?_, fun s => ?_, ?_, ?_⟩
    · rw [rnC, hb, cond_true]
      refine (cP_zero fun a ha e => ?_).symm
      have h1 := hle ha
      have h2 := hn hlt
      rw [e, h2] at h1; cases h1
    · rw [hk, List.mem_append, List.mem_singleton, r.mem s, tk_succ hj, List.mem_append, List.mem_singleton, hx]
      constructor
      · intro h
        have hs : s ∈ L.take (j + 1) := by
          rw [tk_succ hj, List.mem_append, List.mem_singleton, hx]
          rcases h with h | h
          · exact .inl h.1
          · exact .inr h
        refine ⟨h.elim (fun h => .inl h.1) .inr, fun hlt e => ?_⟩
        have h1 := hle hs
        have h2 := hn hlt
        rw [e, h2] at h1; cases h1
      · rintro ⟨h1 | h1, h2⟩
        · by_cases e : s = x
          · exact .inr e
          · exact .inl ⟨h1, fun _ => e⟩
        · exact .inr h1
    · rw [hk]
      refine List.pairwise_append.2 ⟨r.inc, List.pairwise_singleton _ _, fun a ha b hb2 => ?_⟩
      rw [List.mem_singleton] at hb2
      subst hb2
      have h1 := (r.mem a).1 ha
      exact hlow h1.1 (by rw [← hx]; exact h1.2 hj)
    · rw [hk, rnR, hb, cond_true, r.row, List.map_append, hx, ← hall]; rfl
  | false =>
    obtain ⟨h1, h2⟩ := brk_f hj hb
    rw [hx] at h2
    have hk : kR L (j + 1) = kR L j := by rw [kR, hb, cond_false]
    refine ⟨fun _ => ?_, fun s => ?_, by rw [hk]; exact r.inc, by rw [hk, rnR, hb, cond_false, r.row]⟩
    · rw [rnC, hb, cond_false, h2, hcx]
    · rw [hk, r.mem s, tk_succ hj, List.mem_append, List.mem_singleton, hx, h2]
      constructor
      · exact fun h => ⟨.inl h.1, fun _ => h.2 hj⟩
      · rintro ⟨h3 | h3, h4⟩
        · exact ⟨h3, fun _ => h4 h1⟩
        · exact absurd h3 (h4 h1)
theorem rn_all {L : List ByteArray} (hu : Up L) : ∀ {j : Nat}, j ≤ L.length → Rn L j
  | 0, _ => ⟨fun _ => rfl, fun s => ⟨fun h => (by cases h), fun h => (by cases h.1)⟩, List.Pairwise.nil, rfl⟩
  | j + 1, h => rn_step hu h (rn_all hu (Nat.le_of_succ_le h))
theorem group_eq (t : Tb) (k : Nat) : groupG t k = groupT t k := by
  unfold groupG groupT
  congr 1
  have hr := rn_all (insL_up t k t.rows.length) (Nat.le_refl _)
  have hk : kR (insL t k t.rows.length) (insL t k t.rows.length).length = sortB (keysI t k t.rows.length) := by
    refine inc_one hr.inc (sortB_inc (keys_nodup t k _)) fun s => ?_
    rw [hr.mem s, List.take_length, (sortB_perm _).mem_iff, keys_mem]
    exact ⟨fun h => h.1, fun h => ⟨h, fun c => absurd c (Nat.lt_irrefl _)⟩⟩
  rw [hr.row, hk]
  refine List.map_congr_left fun s _ => ?_
  rw [cnt_is]
end Go.Proofs.YtlchjjchgebfiaaGreatDoor
namespace Go.Proofs.YtlchjjchgebfiaaGreatDoor
open Go.RowKit Go.Dl Go.Dl.Stb
attribute [local irreducible] Tri SCall TSem ECall Drawn DFun QSem PSem PCall GCall MCall Round Go.Dl.Weak dloadE OW DWl Tells IntKind.wrap Retold ESem
theorem sml_nil : SmlT ⟨[], []⟩ := ⟨⟨by decide, fun s h => by cases h⟩, by decide, fun r h => by cases h⟩
theorem sml_rows {t : Tb} (h : SmlT t) {l : List (List ByteArray)} (hn : l.length ≤ t.rows.length) (hr : ∀ r ∈ l, r = [] ∨ r ∈ t.rows) : SmlT ⟨t.head, l⟩ := by
  refine ⟨h.1, ?_, fun r hm => ?_⟩
  · have := h.2.1
    show l.length * 24 ≤ _
    omega
  · rcases hr r hm with rfl | h1
    · exact ⟨by decide, fun s h => by cases h⟩
    · exact h.2.2 r h1
theorem sml_sort {t : Tb} (h : SmlT t) (ks : List Int) : SmlT (sortL t ks) := by
  refine sml_rows h (Nat.le_of_eq (so_rl t ks)) fun r hm => ?_
  obtain ⟨j, _, rfl⟩ := List.mem_map.1 hm
  rcases Nat.lt_or_ge (stab (ltK ks t.rows) t.rows.length j) t.rows.length with h1 | h1
  · exact .inr (row_mem h1)
  · rw [List.getD_eq_getElem?_getD, List.getElem?_eq_none h1]; exact .inl rfl
theorem sml_page {t : Tb} (h : SmlT t) (size at_ : Int) : SmlT (pgV t size at_).1 := by
  unfold pgV
  split
  · exact sml_nil
  · split
    · exact sml_nil
    · refine sml_rows h ?_ fun r hm => .inr (pg_mem hm)
      rw [List.length_drop, List.length_take]; omega
theorem numB_size {n : Int} (h0 : -9223372036854775808 ≤ n) (h1 : n ≤ 9223372036854775807) : (numB n).size ≤ 21 := by
  have := Lib.itoa_length_le n h0 h1
  show (Lib.itoa n).toArray.size ≤ 21
  simpa using this
theorem sml_group {t : Tb} (ht : Fitt t) {k : Nat} (hk : k < t.head.length) : SmlT (groupT t k) := by
  have hr := ht.rows
  have hkl := keys_len t k t.rows.length
  have hks := keys_small ht.tbl hk (Nat.le_refl t.rows.length)
  have hh : (t.head.getD k emB).size ≤ 1024 := by
    refine ht.cell _ (.inl rfl) _ ?_
    rw [List.getD_eq_getElem?_getD, List.getElem?_eq_getElem hk]; exact List.getElem_mem _
  refine ⟨⟨(show 2 * 16 ≤ 140737488355328 by decide), fun s hs => ?_⟩, ?_, fun r hm => ?_⟩
  · have hs : s ∈ [t.head.getD k emB, cntB] := hs
    simp only [List.mem_cons, List.not_mem_nil, or_false] at hs
    rcases hs with rfl | rfl
    · exact Nat.le_trans hh (by decide)
    · decide
  · show ((sortB (keysI t k t.rows.length)).map _).length * 24 ≤ _
    rw [List.length_map, sortB_len]; omega
  · obtain ⟨s, hs, rfl⟩ := List.mem_map.1 hm
    refine ⟨(show 2 * 16 ≤ 140737488355328 by decide), fun x hx => ?_⟩
    simp only [List.mem_cons, List.not_mem_nil, or_false] at hx
    rcases hx with rfl | rfl
    · exact Nat.le_trans (hks _ ((sortB_perm _).mem_iff.1 hs)) (by decide)
    · have := cnt_in t k s t.rows.length
      exact Nat.le_trans (numB_size (by omega) (by omega)) (by decide)
theorem Fitt.row {t : Tb} (h : Fitt t) : ∀ r ∈ t.rows, RowOk (t.head.map strD).length r := fun r hr => by
  rw [List.length_map]
  exact ⟨h.len r hr, h.head.2, h.cell r (.inr hr)⟩
structure Both (f g : FuncId) (args : List DV) (a : Tb) (e : Int) : Prop where
  p : DPure Tryz.prog f args (.tup [tab a, int1 e])
  q : DPure Tryz.prog g args (.tup [tab a, int1 e])
  s : SmlT a
theorem both_sort {t : Tb} (ht : Fitt t) (hm : SmlT t) (ks : List Int) (hk : ks.length ≤ 17592186044416) (hr : ∀ k ∈ ks, KIn k) : ∃ a e, Both 26 27 [tab t, ints ks] a e := by
  have hh := ht.head
  have hlh : (t.head.map strD).length = t.head.length := List.length_map _
  have hS : (∀ k ∈ ks, KeyOk (t.head.map strD).length k) → SrtOk ks t.rows t.rows.length := fun h => ⟨⟨_, h, ht.row⟩, rfl, ht.rows, by omega⟩
  have hc : ∀ r ∈ t.rows, 1 ≤ r.length ∧ r.length ≤ 4096 := fun r h => ht.cp.all r (.inr h)
  by_cases hok : ∀ k ∈ ks, KeyOk (t.head.map strD).length k
  · refine ⟨sortL t ks, 0, sort26_D t ks hk hr hS hh.1 (by omega) ⟨ht.rows, hc⟩ _ (fun _ => rfl) (fun h => absurd hok h), ?_, sml_sort hm ks⟩
    rw [← sort_eq]
    exact sort27_K t ks ht.cp hk (by omega) (fun _ => ht.row) _ (fun _ => rfl) (fun h => absurd hok h)
  · exact ⟨⟨[], []⟩, 31, sort26_D t ks hk hr hS hh.1 (by omega) ⟨ht.rows, hc⟩ _ (fun h => absurd h hok) (fun _ => rfl), sort27_K t ks ht.cp hk (by omega) (fun _ => ht.row) _ (fun h => absurd h hok) (fun _ => rfl), sml_nil⟩
theorem both_turn {t : Tb} (ht : Fitt t) : ∃ a e, Both 21 29 [tab t] a e := by
  have h1 := turn21_D t ht.tbl
  have h2 := turn29_D t ht.tbl
  rcases Nat.lt_or_ge t.rows.length 64 with h | h
  · rw [turnV_yes h] at h1 h2
    exact ⟨_, _, h1, h2, sml_fit (turn_fit ht h)⟩
  · rw [turnV_no h] at h1 h2
    exact ⟨_, _, h1, h2, sml_nil⟩
theorem both_group {t : Tb} (ht : Fitt t) (at_ : Int) : ∃ a e, Both 23 30 [tab t, int1 at_] a e := by
  by_cases h : at_ < 0 ∨ (t.head.length : Int) ≤ at_
  · exact ⟨_, _, group23_bad t at_ h, group30_bad t at_ h, sml_nil⟩
  · obtain ⟨k, rfl⟩ : ∃ k : Nat, at_ = k := ⟨at_.toNat, by omega⟩
    have hk : k < t.head.length := by omega
    refine ⟨groupT t k, 0, group23_D t ht.tbl k k hk rfl, ?_, sml_group ht hk⟩
    rw [← group_eq]
    exact group30_D t ht.tbl k hk
attribute [local irreducible] fitB pgV
set_option maxRecDepth 20000 in
set_option maxHeartbeats 4000000 in
theorem sorts8_D (t : Tb) (hm : SmlT t) (ks : List Int) (hk : ks.length ≤ 17592186044416) (hr : ∀ k ∈ ks, KIn k) (size at_ : Int) (hs : KIn size) (ha : KIn at_) : DPure Tryz.prog 8 [tab t, ints ks, int1 size, int1 at_] (bl true) := by
  refine DFun.body Tryz.func8 rfl (by kernel_rfl) ?_
  cases hl : lightB t with
  | false =>
    have h0 := light9_D t hm
    rw [hl] at h0
    repeat' (first | with_reducible rfl | ((conv => whnf); first | refine And.intro ?_ ?_ | (intro h; first | with_reducible exact tf_no h | with_reducible exact ft_no h | exact Bool.noConfusion h | with_reducible exact h | (have ht : true = true := h; clear ht h) | skip) | ((with_reducible refine SCall.mark ?_); first | refine SCall.data (h0) rfl rfl ?_ | refine SCall.scal (h0) rfl rfl ?_ | refine SCall.data (awake10_D) rfl rfl ?_ | refine SCall.scal (awake10_D) rfl rfl ?_) | ((with_reducible refine PCall.mark ?_); first | refine PCall.mk (h0) rfl rfl ?_ | refine PCall.mk (awake10_D) rfl rfl ?_) | ((with_reducible refine GCall.mark ?_); first | refine GCall.data (fun _ => h0) rfl rfl ?_ | refine GCall.scal (fun _ => h0) rfl rfl ?_ | refine GCall.data (fun _ => awake10_D) rfl rfl ?_ | refine GCall.scal (fun _ => awake10_D) rfl rfl ?_) | ((with_reducible refine MCall.mark ?_); first | refine MCall.data (fun _ => h0) rfl rfl ?_ | refine MCall.plain (PCall.mk (h0) rfl rfl ?_) | refine MCall.data (fun _ => awake10_D) rfl rfl ?_ | refine MCall.plain (PCall.mk (awake10_D) rfl rfl ?_)) | ((with_reducible refine ECall.mark ?_); first | refine ECall.only ?_ (fun h => nomatch h) | refine ECall.only ?_ ?_) | ((with_reducible refine Drawn.mark ?_); first | refine Drawn.quiet (by kernel_rfl) ?_) | refine dcell_ok rfl ?_ | refine AppC.new ?_))
    all_goals first | (with_reducible refine enters_mark ?_; kernel_rfl) | (with_reducible refine boolT_mark ?_; kernel_rfl) | rfl | trivial | assumption | exact Nat.le_of_ble_eq_true rfl | (show entersB _ _ = true; kernel_rfl) | exact DW.same _ rfl | exact DW.ref _ _ _ rfl | exact DW.arr _ _ _ rfl | refine DW.int ?_ | refine dvb ?_ | refine dvi ?_ | exact OW.cells rfl rfl (DWl.same rfl) | exact Nat.zero_le _ | omega | skip
    all_goals repeat' (first | refine OW.cells rfl rfl ?_ | exact DW.nilArr _ rfl | refine DWl.cons ?_ ?_ | exact DWl.nil | exact DW.same _ rfl | exact DW.ref _ _ _ rfl | exact DW.arr _ _ _ rfl | exact DW.sub _ _ _ _ rfl | exact DW.mo _ _ rfl | exact DW.nilLst _ | refine DW.aggl ?_ | refine DW.tupl ?_ | refine DW.clol ?_ ?_)
    all_goals try ((conv => whnf); with_reducible first | refine Round.mark ?_ | refine Tells.mark ?_ | refine Retold.mark ?_)
    all_goals try first | (show (_ : Bool) = _; simp_all; done) | (show (_ : Int) < _; simp at *; omega) | (show (_ : Int) ≤ _; simp at *; omega) | (show (_ : Nat) < _; simp at *; omega) | (show (_ : Nat) ≤ _; simp at *; omega)
  | true =>
    have h0 := light9_D t hm
    rw [hl] at h0
    have ht := (light_fit hl).1
    have hh := ht.head
    obtain ⟨a, e, sa⟩ := both_sort ht hm ks hk hr
    have p1 := page22_D t hh.1 (by omega) ⟨ht.rows, fun r h => ht.cp.all r (.inr h)⟩ size at_ hs ha
    have p2 := page28_D t ht.cp size at_
    have p3 := sml_page hm size at_
    generalize pgV t size at_ = q at p1 p2 p3
    obtain ⟨b, n, f⟩ := q
    obtain ⟨c, g, sc⟩ := both_turn ht
    obtain ⟨d, i, sd⟩ := both_group ht at_
    repeat' (first | with_reducible rfl | ((conv => whnf); first | refine And.intro ?_ ?_ | (intro h; first | with_reducible exact tf_no h | with_reducible exact ft_no h | exact Bool.noConfusion h | with_reducible exact h | (exfalso; simp at h; done) | (have ht : true = true := h; clear ht h) | skip) | ((with_reducible refine SCall.mark ?_); first | refine SCall.data (h0) rfl rfl ?_ | refine SCall.scal (h0) rfl rfl ?_ | refine SCall.data (awake10_D) rfl rfl ?_ | refine SCall.scal (awake10_D) rfl rfl ?_ | refine SCall.data (copy11_D t ht.cp) rfl rfl ?_ | refine SCall.scal (copy11_D t ht.cp) rfl rfl ?_ | refine SCall.data (sa.p) rfl rfl ?_ | refine SCall.scal (sa.p) rfl rfl ?_ | refine SCall.data (sa.q) rfl rfl ?_ | refine SCall.scal (sa.q) rfl rfl ?_ | refine SCall.data (same16_D a sa.s) rfl rfl ?_ | refine SCall.scal (same16_D a sa.s) rfl rfl ?_ | refine SCall.data (p1) rfl rfl ?_ | refine SCall.scal (p1) rfl rfl ?_ | refine SCall.data (p2) rfl rfl ?_ | refine SCall.scal (p2) rfl rfl ?_ | refine SCall.data (same16_D b p3) rfl rfl ?_ | refine SCall.scal (same16_D b p3) rfl rfl ?_ | refine SCall.data (sc.p) rfl rfl ?_ | refine SCall.scal (sc.p) rfl rfl ?_ | refine SCall.data (sc.q) rfl rfl ?_ | refine SCall.scal (sc.q) rfl rfl ?_ | refine SCall.data (same16_D c sc.s) rfl rfl ?_ | refine SCall.scal (same16_D c sc.s) rfl rfl ?_ | refine SCall.data (sd.p) rfl rfl ?_ | refine SCall.scal (sd.p) rfl rfl ?_ | refine SCall.data (sd.q) rfl rfl ?_ | refine SCall.scal (sd.q) rfl rfl ?_ | refine SCall.data (same16_D d sd.s) rfl rfl ?_ | refine SCall.scal (same16_D d sd.s) rfl rfl ?_ | refine SCall.data (same16_D t hm) rfl rfl ?_ | refine SCall.scal (same16_D t hm) rfl rfl ?_) | ((with_reducible refine PCall.mark ?_); first | refine PCall.mk (h0) rfl rfl ?_ | refine PCall.mk (awake10_D) rfl rfl ?_ | refine PCall.mk (copy11_D t ht.cp) rfl rfl ?_ | refine PCall.mk (sa.p) rfl rfl ?_ | refine PCall.mk (sa.q) rfl rfl ?_ | refine PCall.mk (same16_D a sa.s) rfl rfl ?_ | refine PCall.mk (p1) rfl rfl ?_ | refine PCall.mk (p2) rfl rfl ?_ | refine PCall.mk (same16_D b p3) rfl rfl ?_ | refine PCall.mk (sc.p) rfl rfl ?_ | refine PCall.mk (sc.q) rfl rfl ?_ | refine PCall.mk (same16_D c sc.s) rfl rfl ?_ | refine PCall.mk (sd.p) rfl rfl ?_ | refine PCall.mk (sd.q) rfl rfl ?_ | refine PCall.mk (same16_D d sd.s) rfl rfl ?_ | refine PCall.mk (same16_D t hm) rfl rfl ?_) | ((with_reducible refine GCall.mark ?_); first | refine GCall.data (fun _ => h0) rfl rfl ?_ | refine GCall.scal (fun _ => h0) rfl rfl ?_ | refine GCall.data (fun _ => awake10_D) rfl rfl ?_ | refine GCall.scal (fun _ => awake10_D) rfl rfl ?_ | refine GCall.data (fun _ => copy11_D t ht.cp) rfl rfl ?_ | refine GCall.scal (fun _ => copy11_D t ht.cp) rfl rfl ?_ | refine GCall.data (fun _ => sa.p) rfl rfl ?_ | refine GCall.scal (fun _ => sa.p) rfl rfl ?_ | refine GCall.data (fun _ => sa.q) rfl rfl ?_ | refine GCall.scal (fun _ => sa.q) rfl rfl ?_ | refine GCall.data (fun _ => same16_D a sa.s) rfl rfl ?_ | refine GCall.scal (fun _ => same16_D a sa.s) rfl rfl ?_ | refine GCall.data (fun _ => p1) rfl rfl ?_ | refine GCall.scal (fun _ => p1) rfl rfl ?_ | refine GCall.data (fun _ => p2) rfl rfl ?_ | refine GCall.scal (fun _ => p2) rfl rfl ?_ | refine GCall.data (fun _ => same16_D b p3) rfl rfl ?_ | refine GCall.scal (fun _ => same16_D b p3) rfl rfl ?_ | refine GCall.data (fun _ => sc.p) rfl rfl ?_ | refine GCall.scal (fun _ => sc.p) rfl rfl ?_ | refine GCall.data (fun _ => sc.q) rfl rfl ?_ | refine GCall.scal (fun _ => sc.q) rfl rfl ?_ | refine GCall.data (fun _ => same16_D c sc.s) rfl rfl ?_ | refine GCall.scal (fun _ => same16_D c sc.s) rfl rfl ?_ | refine GCall.data (fun _ => sd.p) rfl rfl ?_ | refine GCall.scal (fun _ => sd.p) rfl rfl ?_ | refine GCall.data (fun _ => sd.q) rfl rfl ?_ | refine GCall.scal (fun _ => sd.q) rfl rfl ?_ | refine GCall.data (fun _ => same16_D d sd.s) rfl rfl ?_ | refine GCall.scal (fun _ => same16_D d sd.s) rfl rfl ?_ | refine GCall.data (fun _ => same16_D t hm) rfl rfl ?_ | refine GCall.scal (fun _ => same16_D t hm) rfl rfl ?_) | ((with_reducible refine MCall.mark ?_); first | refine MCall.data (fun _ => h0) rfl rfl ?_ | refine MCall.plain (PCall.mk (h0) rfl rfl ?_) | refine MCall.data (fun _ => awake10_D) rfl rfl ?_ | refine MCall.plain (PCall.mk (awake10_D) rfl rfl ?_) | refine MCall.data (fun _ => copy11_D t ht.cp) rfl rfl ?_ | refine MCall.plain (PCall.mk (copy11_D t ht.cp) rfl rfl ?_) | refine MCall.data (fun _ => sa.p) rfl rfl ?_ | refine MCall.plain (PCall.mk (sa.p) rfl rfl ?_) | refine MCall.data (fun _ => sa.q) rfl rfl ?_ | refine MCall.plain (PCall.mk (sa.q) rfl rfl ?_) | refine MCall.data (fun _ => same16_D a sa.s) rfl rfl ?_ | refine MCall.plain (PCall.mk (same16_D a sa.s) rfl rfl ?_) | refine MCall.data (fun _ => p1) rfl rfl ?_ | refine MCall.plain (PCall.mk (p1) rfl rfl ?_) | refine MCall.data (fun _ => p2) rfl rfl ?_ | refine MCall.plain (PCall.mk (p2) rfl rfl ?_) | refine MCall.data (fun _ => same16_D b p3) rfl rfl ?_ | refine MCall.plain (PCall.mk (same16_D b p3) rfl rfl ?_) | refine MCall.data (fun _ => sc.p) rfl rfl ?_ | refine MCall.plain (PCall.mk (sc.p) rfl rfl ?_) | refine MCall.data (fun _ => sc.q) rfl rfl ?_ | refine MCall.plain (PCall.mk (sc.q) rfl rfl ?_) | refine MCall.data (fun _ => same16_D c sc.s) rfl rfl ?_ | refine MCall.plain (PCall.mk (same16_D c sc.s) rfl rfl ?_) | refine MCall.data (fun _ => sd.p) rfl rfl ?_ | refine MCall.plain (PCall.mk (sd.p) rfl rfl ?_) | refine MCall.data (fun _ => sd.q) rfl rfl ?_ | refine MCall.plain (PCall.mk (sd.q) rfl rfl ?_) | refine MCall.data (fun _ => same16_D d sd.s) rfl rfl ?_ | refine MCall.plain (PCall.mk (same16_D d sd.s) rfl rfl ?_) | refine MCall.data (fun _ => same16_D t hm) rfl rfl ?_ | refine MCall.plain (PCall.mk (same16_D t hm) rfl rfl ?_)) | ((with_reducible refine ECall.mark ?_); first | refine ECall.only ?_ (fun h => nomatch h) | refine ECall.only ?_ ?_) | ((with_reducible refine Drawn.mark ?_); first | refine Drawn.quiet (by kernel_rfl) ?_) | refine dcell_ok rfl ?_ | refine AppC.new ?_))
    all_goals try (first | rfl | (with_reducible exact tnb h) | (exact Nat.le_of_ble_eq_true rfl; done))
    all_goals try first | ((with_reducible show Option.isSome (slElem _ _) = true); kernel_rfl) | ((with_reducible show slElem _ _ = some _); kernel_rfl) | ((with_reducible refine enters_mark ?_); kernel_rfl) | (with_reducible assumption) | ((with_reducible show List.all _ DV.one = true); rfl) | ((with_reducible show (_ : Nat) = _); rfl) | ((with_reducible show (_ == true) = true); (first | (simp; done) | simpa using h)) | ((with_reducible show (_ : Nat) ≤ _); exact Nat.le_of_ble_eq_true rfl) | ((with_reducible show (_ : Int) ≤ _); first | omega | decide) | ((with_reducible show (_ : Int) < _); first | omega | decide) | ((with_reducible show (_ : Nat) < _); omega) | ((with_reducible show (_ : Nat) ≤ _); omega)
    exact congrArg (fun x : Bool => bl (bif bif bif true then x else false then true else false then true else false)) (beq_iff_eq.2 rfl : (i == i) = true)
set_option maxRecDepth 20000 in
theorem kin_wf {x : Int} (h : (Lit.int .i64 x).wf = true) : KIn x := by
  unfold Lit.wf at h
  rw [Bool.and_eq_true] at h
  have h1 : (-9223372036854775808 : Int) ≤ x := of_decide_eq_true h.1
  have h2 : x ≤ (9223372036854775807 : Int) := of_decide_eq_true h.2
  exact ⟨h1, h2⟩
set_option maxRecDepth 20000 in
theorem int_row (r : List DV) (h : Shp Tryz.prog 3 r) : ∃ x : Int, r = intD x ∧ KIn x := by
  obtain ⟨x, e, h⟩ := Shp.int_inv Tryz.underlying3 h
  exact ⟨x, e, kin_wf h⟩
set_option maxRecDepth 20000 in
theorem int_arg {d : DV} (h : ShpV Tryz.prog 3 d) : ∃ x : Int, d = int1 x ∧ KIn x := by
  obtain ⟨x, e, h⟩ := ShpV.int_inv Tryz.underlying3 h
  exact ⟨x, e, kin_wf h⟩
set_option maxRecDepth 20000 in
theorem cells3 : Tryz.prog.cellsOf 3 = 1 := by kernel_rfl
set_option maxRecDepth 20000 in
theorem bytes3 : Tryz.prog.bytesOf 3 = 8 := by kernel_rfl
set_option maxRecDepth 20000 in
theorem ints_arg {d : DV} (h : ShpV Tryz.prog 41 d) : ∃ l : List Int, d = ints l ∧ l.length ≤ 17592186044416 ∧ ∀ k ∈ l, KIn k := by
  obtain ⟨l, h1, h2, h3⟩ := ShpV.slice_inv Tryz.underlying41 int_row h
  rw [cells3] at h1
  rw [bytes3] at h2
  have h4 : l.length * 8 ≤ 140737488355328 := Nat.le_trans h2 (Nat.le_of_ble_eq_true rfl)
  exact ⟨l, h1, by omega, h3⟩
end Go.Proofs.YtlchjjchgebfiaaGreatDoor
