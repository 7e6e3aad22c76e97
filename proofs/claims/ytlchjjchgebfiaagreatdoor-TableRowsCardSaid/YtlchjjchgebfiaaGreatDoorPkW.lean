/- Groups of a table: the program's. -/
import Derived.Test.YtlchjjchgebfiaaGreatDoorPkV
import Derived.Test.YtlchjjchgebfiaaGreatDoorDp34
import Derived.Test.YtlchjjchgebfiaaGreatDoorPkH
import Derived.Test.YtlchjjchgebfiaaGreatDoorPkX
import Derived.Lib.ItoaLen
import Derived.Test.YtlchjjchgebfiaaGreatDoorPkA

namespace Go.Proofs.YtlchjjchgebfiaaGreatDoor
open Go.RowKit Go.Dl
attribute [local irreducible] Tri SCall TSem ECall Drawn DFun QSem PSem PCall GCall MCall Round Weak dloadE OW DWl Tells IntKind.wrap Retold ESem
def cntI (t : Tb) (k : Nat) : Nat → AL
  | 0 => []
  | i + 1 => putS (celA t k i) (getS (celA t k i) (cntI t k i) + 1) (cntI t k i)
def keysI (t : Tb) (k : Nat) : Nat → List ByteArray
  | 0 => []
  | i + 1 => bif getS (celA t k i) (cntI t k i) == 0 then keysI t k i ++ [celA t k i] else keysI t k i
theorem get_put (s a : ByteArray) (v : Int) : ∀ l : AL, getS s (putS a v l) = bif s == a then v else getS s l
  | [] => rfl
  | (b, c) :: l => by
    rw [putS]
    cases h : a == b with
    | true =>
      have e := ba_eq.1 h
      subst e
      rw [cond_true, getS, getS]
      cases s == a <;> rfl
    | false =>
      rw [cond_false, getS, getS, get_put s a v l]
      cases h2 : s == b with
      | true =>
        have e := ba_eq.1 h2
        subst e
        cases h3 : s == a with
        | true => rw [ba_eq.1 h3, ba_eq.2 rfl] at h; cases h
        | false => rfl
      | false => rfl
theorem cnt_in (t : Tb) (k : Nat) (s : ByteArray) : ∀ i, 0 ≤ getS s (cntI t k i) ∧ getS s (cntI t k i) ≤ i
  | 0 => ⟨Int.le_refl 0, Int.le_refl 0⟩
  | i + 1 => by
    rw [cntI, get_put]
    cases h : s == celA t k i with
    | true =>
      have := cnt_in t k (celA t k i) i
      rw [cond_true]; omega
    | false =>
      have := cnt_in t k s i
      rw [cond_false]; omega
theorem cnt_w {t : Tb} {k i : Nat} (hi : i ≤ 4096) : IntKind.i64.wrap (getS (celA t k i) (cntI t k i) + 1) = getS (celA t k i) (cntI t k i) + 1 := by
  have := cnt_in t k (celA t k i) i
  exact wrapI (by omega) (by omega)
theorem keys_len (t : Tb) (k : Nat) : ∀ i, (keysI t k i).length ≤ i
  | 0 => Nat.le_refl 0
  | i + 1 => by
    have := keys_len t k i
    rw [keysI]
    cases getS (celA t k i) (cntI t k i) == 0 with
    | true => rw [cond_true, List.length_append]; simp; omega
    | false => rw [cond_false]; omega
theorem mapA_all : ∀ l : AL, (mapC (encA l)).all noId1 = true
  | [] => rfl
  | _ :: l => mapA_all l
theorem mup_ok {t : Tb} {k i : Nat} (hi : i ≤ 4096) {es : Array MapEntry} {clk b : Nat} {w : World} (he : es.toList.map ent = encA (cntI t k i)) (hb : w.heap[b]? = some (.map es clk)) :
    ∃ es' clk', es'.toList.map ent = encA (cntI t k (i + 1)) ∧ (Instr.mapUpdate 100 (.map (some b)) (.string (celA t k i)) (.int .i64 (IntKind.i64.wrap (getS (celA t k i) (cntI t k i) + 1)))).run Tryz.prog w = .ok () (w.putObj b (.map es' clk')) := by
  rw [cnt_w hi]
  exact upd_run _ _ he hb
theorem keys_t {t : Tb} {k i : Nat} (h : getS (celA t k i) (cntI t k i) = 0) : keysI t k (i + 1) = keysI t k i ++ [celA t k i] := by rw [keysI, h]; rfl
theorem keys_f {t : Tb} {k i : Nat} (h : ¬ getS (celA t k i) (cntI t k i) = 0) : keysI t k (i + 1) = keysI t k i := by rw [keysI, show (getS (celA t k i) (cntI t k i) == 0) = false from beq_eq_false_iff_ne.2 h]; rfl
theorem z_t {x : Int} (h : x = 0) (k : (x == 0) = false) : False := by subst h; cases k
theorem z_f {x : Int} (h : ¬ x = 0) (k : (x == 0) = true) : False := h (eq_of_beq k)
set_option maxRecDepth 20000 in
theorem ky_1 (t : Tb) (k i : Nat) : (keysI t k i).length * Tryz.prog.types[9].size ≤ ((keysI t k i).map strV).length := by
  show _ * 1 ≤ _
  rw [List.length_map, Nat.mul_one]; exact Nat.le_refl _
set_option maxRecDepth 20000 in
theorem ky_2 {t : Tb} {k i : Nat} (hi : i ≤ 4096) : ((keysI t k i).length + 1) * Tryz.prog.types[9].bytes ≤ 140737488355328 := by
  show (_ + 1) * 16 ≤ _
  have := keys_len t k i
  omega
theorem ky_3 {t : Tb} {k i : Nat} (hi : i ≤ 4096) : (keysI t k i).length + 1 ≤ maxLen := by
  have := keys_len t k i
  simp only [maxLen]; omega
theorem ky_push {t : Tb} {k i : Nat} (h : getS (celA t k i) (cntI t k i) = 0) : ((keysI t k i).map strV).take ((keysI t k i).length * 1) ++ [strV (celA t k i)] = (keysI t k (i + 1)).map strV := by
  rw [keys_t h, List.map_append, List.take_of_length_le (by rw [List.length_map]; omega)]; rfl
theorem ky_len {t : Tb} {k i : Nat} (h : getS (celA t k i) (cntI t k i) = 0) : (keysI t k i).length + 1 = (keysI t k (i + 1)).length := by
  rw [keys_t h, List.length_append]; rfl
theorem strV_all : ∀ l : List ByteArray, (l.map strV).all noId1 = true
  | [] => rfl
  | _ :: l => strV_all l
theorem keys_small {t : Tb} (ht : Tbl t) {k : Nat} (hk : k < t.head.length) : ∀ {i : Nat}, i ≤ t.rows.length → ∀ s ∈ keysI t k i, s.size ≤ 1024
  | 0, _, s, h => by cases h
  | i + 1, hi, s, h => by
    rw [keysI] at h
    cases hz : getS (celA t k i) (cntI t k i) == 0 with
    | true =>
      rw [hz, cond_true, List.mem_append, List.mem_singleton] at h
      rcases h with h | rfl
      · exact keys_small ht hk (Nat.le_of_succ_le hi) s h
      · exact cel_size ht hk hi
    | false =>
      rw [hz, cond_false] at h
      exact keys_small ht hk (Nat.le_of_succ_le hi) s h
theorem itoa60_D (n : Int) (h0 : -9223372036854775808 ≤ n) (h1 : n ≤ 9223372036854775807) : DPure Tryz.prog 60 [int1 n] (strV (numB n)) :=
  DPure.kit (args := [.int .i64 n]) fun w hg => (Go.Proofs.Any.strconv_Itoa Tryz.laysItoa n h0 h1 w hg.2.2.2).mono fun e w' ⟨he, k, os, hw⟩ => by
    subst hw
    exact ⟨_, he, below_grow w k os, fun F hF => .data (.v _ rfl)⟩
def cntB : ByteArray := ⟨#[99, 111, 117, 110, 116]⟩
def grRow (K : List ByteArray) (C : AL) (j : Nat) : List (List ByteArray) := (K.take j).map fun s => [s, numB (getS s C)]
def gqSt (K : List ByteArray) (C : AL) (h : ByteArray) (j : Nat) : St := ⟨0, tmOf [(4, .ref 0 0), (6, .ref 2 0), (9, .ref 4 0), (48, .arr 3 K.length), (49, int1 K.length), (50, int1 j)], .of [(0, ⟨25, 2, [.v (.slice none 0 0), .v (.slice none 0 0)]⟩), (1, mapO (encA C)), (2, ⟨100, 1, [.mo 1]⟩), (3, ⟨9, 1, K.map strV⟩), (4, ⟨25, 2, [strs [h, cntB], .arr 5 j]⟩), (5, ⟨22, 1, rowsC (grRow K C j)⟩)] 6⟩
theorem kc_get {K : List ByteArray} {j : Nat} (h : j < K.length) : (K.map strV)[((j : Nat) : Int).toNat * 1]? = some (strV (K.getD j emB)) := by
  rw [Int.toNat_natCast, Nat.mul_one, List.getElem?_map, List.getElem?_eq_getElem h, List.getD_eq_getElem?_getD, List.getElem?_eq_getElem h]; rfl
theorem gr_len {K : List ByteArray} {C : AL} {j : Nat} (h : j ≤ K.length) : (grRow K C j).length = j := by
  unfold grRow; rw [List.length_map, List.length_take]; omega
theorem gr_push {K : List ByteArray} {C : AL} {j : Nat} (h : j < K.length) : (rowsC (grRow K C j)).take (j * 1) ++ [strs [K.getD j emB, numB (getS (K.getD j emB) C)]] = rowsC (grRow K C (j + 1)) := by
  rw [List.take_of_length_le (by rw [rowsC_len, gr_len (Nat.le_of_lt h)]; omega), rowsC_map, rowsC_map]
  unfold grRow
  rw [List.take_succ_eq_append_getElem h, List.map_append, List.map_append, List.getD_eq_getElem?_getD, List.getElem?_eq_getElem h]; rfl
set_option maxRecDepth 20000 in
theorem gr_2 {j : Nat} (h : j ≤ 4096) : (j + 1) * Tryz.prog.types[22].bytes ≤ 140737488355328 := by
  show (j + 1) * 24 ≤ _
  omega
theorem gr_3 {j : Nat} (h : j ≤ 4096) : j + 1 ≤ maxLen := by simp only [maxLen]; omega
set_option maxRecDepth 20000 in
theorem gr_1 {K : List ByteArray} {C : AL} {j : Nat} (h : j ≤ K.length) : j * Tryz.prog.types[22].size ≤ (rowsC (grRow K C j)).length := by
  show j * 1 ≤ _
  rw [rowsC_len, gr_len h]; omega
def groupT (t : Tb) (k : Nat) : Tb := ⟨[t.head.getD k emB, cntB], (sortB (keysI t k t.rows.length)).map fun s => [s, numB (getS s (cntI t k t.rows.length))]⟩
def gpSt (t : Tb) (k lb i : Nat) : St := ⟨⟨7, [.normal]⟩, tmOf [(0, .clo (.yield lb) [] []), (1, .ref 5 0), (2, .ref 6 0), (7, rowsD t.rows), (8, int1 (t.rows.map rowD).length), (9, int1 i)], .of [(0, ⟨25, 2, [strs t.head, rowsD t.rows]⟩), (1, ⟨25, 2, [.v (.slice none 0 0), .v (.slice none 0 0)]⟩), (2, mapO (encA (cntI t k i))), (3, ⟨100, 1, [.mo 2]⟩), (4, ⟨22, 1, [.arr 7 (keysI t k i).length]⟩), (5, ⟨25, 2, tbD t⟩), (6, ⟨3, 1, [int1 k]⟩), (7, ⟨9, 1, (keysI t k i).map strV⟩)] 8⟩
set_option maxRecDepth 100000 in
set_option maxHeartbeats 2000000 in
theorem group23_D (t : Tb) (ht : Tbl t) (by_ : Int) (k : Nat) (hk : k < t.head.length) (he : by_ = k) : DPure Tryz.prog 23 [tab t, int1 by_] (.tup [tab (groupT t k), int1 0]) := by
  subst he
  have hkn : (decide ((k : Int) < 0) == false) = true := by rw [decide_eq_false (by omega)]; rfl
  have hkh : (k : Int) < (((t.head.map strD).length : Nat) : Int) := by rw [List.length_map]; omega
  have hkt : (bif decide ((k : Int) < 0) then true else decide ((((t.head.map strD).length : Nat) : Int) ≤ (k : Int))) = false := by rw [decide_eq_false (by omega), List.length_map, decide_eq_false (by omega)]; rfl
  refine DFun.data (DFun.body Tryz.func23 rfl (by kernel_rfl) ?_)
  repeat' (first | with_reducible rfl | ((conv => whnf); first | refine And.intro ?_ ?_ | (intro h; first | with_reducible exact tf_no h | with_reducible exact ft_no h | exact Bool.noConfusion h | with_reducible exact h | (exfalso; exact bt_x hkt h) | (have ht : true = true := h; clear ht h) | skip) | ((with_reducible refine SCall.mark ?_); first | refine SCall.run Tryz.func55 rfl (Nat.le_of_ble_eq_true rfl) (by kernel_rfl) ?_) | ((with_reducible refine ECall.mark ?_); first | refine ECall.only ?_ (fun h => nomatch h) | refine ECall.only ?_ ?_) | ((with_reducible refine Drawn.mark ?_); first | refine Drawn.quiet (by kernel_rfl) ?_) | refine dloadE_map (emB) ?_ ?_ | refine dcell_ok rfl ?_ | refine AppC.new ?_))
  all_goals try (first | (with_reducible exact hkn))
  all_goals try first | ((with_reducible show Option.isSome (slElem _ _) = true); kernel_rfl) | ((with_reducible show slElem _ _ = some _); kernel_rfl) | ((with_reducible refine enters_mark ?_); kernel_rfl) | (with_reducible assumption) | ((with_reducible show List.all _ DV.one = true); rfl) | ((with_reducible show (_ : Nat) = _); rfl) | ((with_reducible show (_ == true) = true); simpa using h) | ((with_reducible show (_ : Nat) ≤ _); exact Nat.le_of_ble_eq_true rfl) | ((with_reducible show (_ : Int) ≤ _); first | omega | decide) | ((with_reducible show (_ : Int) < _); first | omega | decide) | ((with_reducible show (_ : Nat) < _); omega) | ((with_reducible show (_ : Nat) ≤ _); omega)
  conv => whnf
  refine Tri.range rfl (by kernel_rfl) rfl rfl (by rfl) (by kernel_rfl) fun lb => ?_
  repeat' (first | with_reducible rfl | ((conv => whnf); first | refine And.intro ?_ ?_ | (intro h; first | with_reducible exact tf_no h | with_reducible exact ft_no h | exact Bool.noConfusion h | with_reducible exact h | (have ht : true = true := h; clear ht h) | skip) | ((with_reducible refine ECall.mark ?_); first | refine ECall.only ?_ (fun h => nomatch h) | refine ECall.only ?_ ?_) | ((with_reducible refine Drawn.mark ?_); first | refine Drawn.quiet (by kernel_rfl) ?_) | refine dloadE_map (emB) ?_ ?_ | refine dcell_ok rfl ?_ | refine AppC.new ?_))
  all_goals first | (with_reducible refine enters_mark ?_; kernel_rfl) | (with_reducible refine boolT_mark ?_; kernel_rfl) | rfl | trivial | assumption | exact Nat.le_of_ble_eq_true rfl | (show entersB _ _ = true; kernel_rfl) | exact DW.same _ rfl | exact DW.ref _ _ _ rfl | exact DW.arr _ _ _ rfl | refine DW.int ?_ | refine dvb ?_ | refine dvi ?_ | exact OW.cells rfl rfl (DWl.same rfl) | exact Nat.zero_le _ | omega | skip
  all_goals repeat' (first | refine OW.cells rfl rfl ?_ | exact DW.nilArr _ rfl | refine DWl.cons ?_ ?_ | exact DWl.nil | exact DW.same _ rfl | exact DW.ref _ _ _ rfl | exact DW.arr _ _ _ rfl | exact DW.sub _ _ _ _ rfl | exact DW.mo _ _ rfl | exact DW.nilLst _ | refine DW.aggl ?_ | refine DW.tupl ?_ | refine DW.clol ?_ ?_)
  all_goals try ((conv => whnf); with_reducible first | refine Round.mark ?_ | refine Tells.mark ?_ | refine Retold.mark ?_)
  all_goals try first | (show (_ : Bool) = _; simp_all; done) | (show (_ : Int) < _; simp at *; omega) | (show (_ : Int) ≤ _; simp at *; omega) | (show (_ : Nat) < _; simp at *; omega) | (show (_ : Nat) ≤ _; simp at *; omega)
  conv => whnf
  refine Tri.loop (gpSt t k lb) (· ≤ t.rows.length) (fun i => t.rows.length - i) 0 (by kernel_rfl) (Weak.list [(7, none)] [] (by kernel_rfl) ?_ ?_) (Nat.zero_le _) ?_
  iterate 2 · repeat' (first | exact DW.nilArr _ rfl | exact DW.mo _ _ rfl | exact DWl.same rfl | exact DW.same _ rfl | exact DW.ref _ _ _ rfl | exact DW.arr _ _ _ rfl | exact OW.cells rfl rfl (DWl.same rfl) | refine OW.cells rfl rfl ?_ | refine DWl.cons ?_ ?_ | exact DWl.nil | exact DW.nilArr _ rfl | exact DW.nilLst _ | refine DW.clol ?_ ?_ | refine DW.aggl ?_ | refine DW.tupl ?_ | refine DW.int ?_ | refine DW.bool ?_ | refine DW.str ?_ | refine DW.arrE rfl ?_ | ((conv => whnf); first | refine And.intro ?_ ?_ | trivial))
  intro i hi
  have hi : i ≤ t.rows.length := hi
  have hi4 : i ≤ 4096 := Nat.le_trans hi ht.rows
  show dcode _ _ _ _ (gpSt t k lb i) _
  by_cases hil : i < t.rows.length
  · have hlt : (i : Int) < (((t.rows.map rowD).length : Nat) : Int) := by rw [List.length_map]; omega
    by_cases hz : getS (celA t k i) (cntI t k i) = 0
    · repeat' (first | with_reducible rfl | ((conv => whnf); first | refine And.intro ?_ ?_ | (intro h; first | with_reducible exact tf_no h | with_reducible exact ft_no h | exact Bool.noConfusion h | with_reducible exact h | (exfalso; exact of_decide_eq_false h hlt) | (exfalso; exact z_t hz h) | (have ht : true = true := h; clear ht h) | skip) | ((with_reducible refine ex_mark ?_); first | refine dq_mlook (kv := .string (celA t k i)) (l := encA (cntI t k i)) (int1 (getS (celA t k i) (cntI t k i))) (.int .i64 (getS (celA t k i) (cntI t k i))) rfl rfl rfl (fun es clk b w he hb => look_run _ he hb) (fun w F β => .data (.v _ rfl)) ?_) | ((with_reducible refine ECall.mark ?_); first | refine ECall.only ?_ (fun h => nomatch h) | refine ECall.only ?_ ?_) | ((with_reducible refine Drawn.mark ?_); first | refine Drawn.quiet (by kernel_rfl) ?_) | refine dloadE_map (([] : List ByteArray)) ?_ ?_ | refine dloadE_map (emB) ?_ ?_ | refine esem_mup (kv := .string (celA t k i)) (xv := .int .i64 (IntKind.i64.wrap (getS (celA t k i) (cntI t k i) + 1))) (l := encA (cntI t k i)) (encA (cntI t k (i + 1))) rfl rfl rfl rfl (encA_ok _) (fun es clk b w he hb => mup_ok hi4 he hb) ?_ | refine dcell_ok rfl ?_ | refine AppC.new ?_))
      all_goals try ((conv => whnf); with_reducible refine Round.mark ?_)
      all_goals try first | ((with_reducible show Option.isSome (slElem _ _) = true); kernel_rfl) | ((with_reducible show slElem _ _ = some _); kernel_rfl) | ((with_reducible refine enters_mark ?_); kernel_rfl) | (with_reducible assumption) | ((with_reducible show List.all _ DV.one = true); rfl) | ((with_reducible show (_ : Nat) = _); rfl) | ((with_reducible show (_ == true) = true); simpa using h) | ((with_reducible show (_ : Nat) ≤ _); exact Nat.le_of_ble_eq_true rfl) | ((with_reducible show (_ : Int) ≤ _); first | omega | decide) | ((with_reducible show (_ : Int) < _); first | omega | decide) | ((with_reducible show (_ : Nat) < _); omega) | ((with_reducible show (_ : Nat) ≤ _); omega)
      all_goals try (first | (with_reducible exact ky_1 t k i) | (with_reducible exact ky_2 hi4) | (with_reducible exact ky_3 hi4) | (exact col_in ht hk hil; done) | (exact col_at ht hk hil; done))
      refine Round.go (· + 1) hil (by show t.rows.length - (i + 1) < t.rows.length - i; omega) (Weak.list [(7, some 9)] [] (by kernel_rfl) ?_ ?_)
      iterate 2 · repeat' (first | exact wsucc hil (by have := ht.rows; omega) | exact OW.cells rfl rfl (DWl.cons (DW.aggl (DWl.cons (DW.same _ rfl) (DWl.same (mapA_all _)))) DWl.nil) | exact DWl.eq (ky_push hz) (strV_all _) | exact DW.mo _ _ rfl | exact ky_len hz | exact DW.same _ rfl | exact DW.ref _ _ _ rfl | exact DW.arr _ _ _ rfl | exact OW.cells rfl rfl (DWl.same rfl) | refine OW.cells rfl rfl ?_ | refine DWl.cons ?_ ?_ | exact DWl.nil | exact DW.nilArr _ rfl | exact DW.nilLst _ | refine DW.clol ?_ ?_ | refine DW.aggl ?_ | refine DW.tupl ?_ | refine DW.int ?_ | refine DW.bool ?_ | refine DW.str ?_ | refine DW.arrE rfl ?_ | ((conv => whnf); first | refine And.intro ?_ ?_ | trivial))
    · repeat' (first | with_reducible rfl | ((conv => whnf); first | refine And.intro ?_ ?_ | (intro h; first | with_reducible exact tf_no h | with_reducible exact ft_no h | exact Bool.noConfusion h | with_reducible exact h | (exfalso; exact of_decide_eq_false h hlt) | (exfalso; exact z_f hz h) | (have ht : true = true := h; clear ht h) | skip) | ((with_reducible refine ex_mark ?_); first | refine dq_mlook (kv := .string (celA t k i)) (l := encA (cntI t k i)) (int1 (getS (celA t k i) (cntI t k i))) (.int .i64 (getS (celA t k i) (cntI t k i))) rfl rfl rfl (fun es clk b w he hb => look_run _ he hb) (fun w F β => .data (.v _ rfl)) ?_) | ((with_reducible refine ECall.mark ?_); first | refine ECall.only ?_ (fun h => nomatch h) | refine ECall.only ?_ ?_) | ((with_reducible refine Drawn.mark ?_); first | refine Drawn.quiet (by kernel_rfl) ?_) | refine dloadE_map (([] : List ByteArray)) ?_ ?_ | refine dloadE_map (emB) ?_ ?_ | refine esem_mup (kv := .string (celA t k i)) (xv := .int .i64 (IntKind.i64.wrap (getS (celA t k i) (cntI t k i) + 1))) (l := encA (cntI t k i)) (encA (cntI t k (i + 1))) rfl rfl rfl rfl (encA_ok _) (fun es clk b w he hb => mup_ok hi4 he hb) ?_ | refine dcell_ok rfl ?_ | refine AppC.new ?_))
      all_goals try ((conv => whnf); with_reducible refine Round.mark ?_)
      all_goals try first | ((with_reducible show Option.isSome (slElem _ _) = true); kernel_rfl) | ((with_reducible show slElem _ _ = some _); kernel_rfl) | ((with_reducible refine enters_mark ?_); kernel_rfl) | (with_reducible assumption) | ((with_reducible show List.all _ DV.one = true); rfl) | ((with_reducible show (_ : Nat) = _); rfl) | ((with_reducible show (_ == true) = true); simpa using h) | ((with_reducible show (_ : Nat) ≤ _); exact Nat.le_of_ble_eq_true rfl) | ((with_reducible show (_ : Int) ≤ _); first | omega | decide) | ((with_reducible show (_ : Int) < _); first | omega | decide) | ((with_reducible show (_ : Nat) < _); omega) | ((with_reducible show (_ : Nat) ≤ _); omega)
      all_goals try (first | (exact col_in ht hk hil; done) | (exact col_at ht hk hil; done))
      refine Round.go (· + 1) hil (by show t.rows.length - (i + 1) < t.rows.length - i; omega) (Weak.list [(7, some 7)] [] (by kernel_rfl) ?_ ?_)
      iterate 2 · repeat' (first | exact wsucc hil (by have := ht.rows; omega) | exact OW.cells rfl rfl (DWl.cons (DW.aggl (DWl.cons (DW.same _ rfl) (DWl.same (mapA_all _)))) DWl.nil) | exact DWl.eq (congrArg (List.map strV) (keys_f hz).symm) (strV_all _) | exact DW.mo _ _ rfl | exact (congrArg List.length (keys_f hz)).symm | exact DW.same _ rfl | exact DW.ref _ _ _ rfl | exact DW.arr _ _ _ rfl | exact OW.cells rfl rfl (DWl.same rfl) | refine OW.cells rfl rfl ?_ | refine DWl.cons ?_ ?_ | exact DWl.nil | exact DW.nilArr _ rfl | exact DW.nilLst _ | refine DW.clol ?_ ?_ | refine DW.aggl ?_ | refine DW.tupl ?_ | refine DW.int ?_ | refine DW.bool ?_ | refine DW.str ?_ | refine DW.arrE rfl ?_ | ((conv => whnf); first | refine And.intro ?_ ?_ | trivial))
  · have hi2 : i = t.rows.length := by omega
    have hks := keys_small ht hk hi
    have hkl := keys_len t k i
    have hsrt := sort58_S (keysI t k i) hks (Nat.le_trans hkl hi4)
    repeat' (first | with_reducible rfl | ((conv => whnf); first | refine And.intro ?_ ?_ | (intro h; first | with_reducible exact tf_no h | with_reducible exact ft_no h | exact Bool.noConfusion h | with_reducible exact h | (exfalso; exact hil (by rw [List.length_map] at h; exact lt_int h)) | (have ht : true = true := h; clear ht h) | skip) | ((with_reducible refine SCall.mark ?_); first | refine SCall.at [7] (fun _ => [(7, ⟨9, 1, (sortB (keysI t k i)).map strV⟩)]) (fun _ => .tup []) 0 hsrt (by kernel_rfl) ⟨OW.cells rfl rfl (DWl.same (strV_all _)), trivial⟩ (DWl.cons (DW.arr _ _ _ rfl) (DWl.cons (DW.clol DWl.nil DWl.nil) DWl.nil)) (DW.tupl DWl.nil) ⟨OW.cells rfl rfl (DWl.same (strV_all _)), trivial⟩ ?_) | ((with_reducible refine ECall.mark ?_); first | refine ECall.only ?_ (fun h => nomatch h) | refine ECall.only ?_ ?_) | ((with_reducible refine Drawn.mark ?_); first | refine Drawn.quiet (by kernel_rfl) ?_) | refine dloadE_map (emB) ?_ ?_ | refine dcell_ok rfl ?_ | refine AppC.new ?_))
    all_goals try first | ((with_reducible show Option.isSome (slElem _ _) = true); kernel_rfl) | ((with_reducible show slElem _ _ = some _); kernel_rfl) | ((with_reducible refine enters_mark ?_); kernel_rfl) | (with_reducible assumption) | ((with_reducible show List.all _ DV.one = true); rfl) | ((with_reducible show (_ : Nat) = _); rfl) | ((with_reducible show (_ == true) = true); simpa using h) | ((with_reducible show (_ : Nat) ≤ _); exact Nat.le_of_ble_eq_true rfl) | ((with_reducible show (_ : Int) ≤ _); first | omega | decide) | ((with_reducible show (_ : Int) < _); first | omega | decide) | ((with_reducible show (_ : Nat) < _); omega) | ((with_reducible show (_ : Nat) ≤ _); omega)
    all_goals try (exact hkh; done)
    conv => whnf
    have hcI := fun s => cnt_in t k s i
    have hsl := sortB_len (keysI t k i)
    refine Tri.loop (gqSt (sortB (keysI t k i)) (cntI t k i) (t.head.getD k emB)) (fun j => j ≤ (sortB (keysI t k i)).length) (fun j => (sortB (keysI t k i)).length - j) 0 (by kernel_rfl) (Weak.list [(0, some 1), (1, some 2), (2, some 3), (3, some 7), (4, some 9), (5, none)] [8] (by kernel_rfl) ?_ ?_) (Nat.zero_le _) ?_
    iterate 2 · repeat' (first | exact DW.nilArr _ rfl | exact DW.mo _ _ rfl | exact OW.cells rfl rfl (DWl.same (strV_all _)) | exact OW.cells rfl rfl (DWl.cons (DW.aggl (DWl.cons (DW.same _ rfl) (DWl.same (mapA_all _)))) DWl.nil) | exact DW.pubE rfl rfl (Nat.zero_lt_succ _) (List.mem_singleton.2 rfl) rfl strRow rfl | exact hsl.symm | exact congrArg (fun n : Nat => (n : Int)) hsl.symm | exact DW.same _ rfl | exact DW.ref _ _ _ rfl | exact DW.arr _ _ _ rfl | exact OW.cells rfl rfl (DWl.same rfl) | refine OW.cells rfl rfl ?_ | refine DWl.cons ?_ ?_ | exact DWl.nil | exact DW.nilArr _ rfl | exact DW.nilLst _ | refine DW.clol ?_ ?_ | refine DW.aggl ?_ | refine DW.tupl ?_ | refine DW.int ?_ | refine DW.bool ?_ | refine DW.str ?_ | refine DW.arrE rfl ?_ | ((conv => whnf); first | refine And.intro ?_ ?_ | trivial))
    generalize hKe : sortB (keysI t k i) = K at hsl
    intro j hj
    have hj : j ≤ K.length := hj
    have hj4 : j ≤ 4096 := by omega
    show dcode _ _ _ _ (gqSt K (cntI t k i) (t.head.getD k emB) j) _
    by_cases hjl : j < K.length
    · have hit := itoa60_D (getS (K.getD j emB) (cntI t k i)) (by have := hcI (K.getD j emB); omega) (by have := hcI (K.getD j emB); omega)
      repeat' (first | with_reducible rfl | ((conv => whnf); first | refine And.intro ?_ ?_ | (intro h; first | with_reducible exact tf_no h | with_reducible exact ft_no h | exact Bool.noConfusion h | with_reducible exact h | (exfalso; exact of_decide_eq_false h (Int.ofNat_lt.2 hjl)) | (have ht : true = true := h; clear ht h) | skip) | ((with_reducible refine SCall.mark ?_); first | refine SCall.data (hit) rfl rfl ?_ | refine SCall.scal (hit) rfl rfl ?_) | ((with_reducible refine PCall.mark ?_); first | refine PCall.mk (hit) rfl rfl ?_) | ((with_reducible refine GCall.mark ?_); first | refine GCall.data (fun _ => hit) rfl rfl ?_ | refine GCall.scal (fun _ => hit) rfl rfl ?_) | ((with_reducible refine MCall.mark ?_); first | refine MCall.data (fun _ => hit) rfl rfl ?_ | refine MCall.plain (PCall.mk (hit) rfl rfl ?_)) | ((with_reducible refine Tri.mark ?_); first | (refine Tri.treeX [4, 5] (MX.mv 0 0 (MX.mv 0 2 (MX.mv 0 3 (MX.mv 0 4 (MX.mv 0 5 (MX.two 1 1 (MX.mv 2 6 (MX.mv 1 7 (MX.mv 1 8 (MX.mv 1 9 (MX.mv 1 10 (MX.mv 1 11 MX.done)))))) 2 6 (MX.two 1 1 (MX.mv 1 7 (MX.mv 1 8 (MX.mv 1 9 (MX.mv 1 10 (MX.mv 1 11 MX.done))))) 1 7 (MX.two 1 1 (MX.mv 1 8 (MX.mv 1 9 (MX.mv 1 10 (MX.mv 1 11 MX.done)))) 1 8 (MX.mv 1 1 (MX.mv 1 9 (MX.mv 1 10 (MX.mv 1 11 MX.done)))))))))))) ?_ (by kernel_rfl) ?_; rfl)) | ((with_reducible refine ex_mark ?_); first | refine dq_mlook (kv := .string (K.getD j emB)) (l := encA (cntI t k i)) (int1 (getS (K.getD j emB) (cntI t k i))) (.int .i64 (getS (K.getD j emB) (cntI t k i))) rfl rfl rfl (fun es clk b w he hb => look_run _ he hb) (fun w F β => .data (.v _ rfl)) ?_) | ((with_reducible refine ECall.mark ?_); first | refine ECall.only ?_ (fun h => nomatch h) | refine ECall.only ?_ ?_) | ((with_reducible refine Drawn.mark ?_); first | (refine Drawn.tree ?_; refine Tri.treeX [4, 5] (MX.mv 0 0 (MX.mv 0 2 (MX.mv 0 3 (MX.mv 0 4 (MX.mv 0 5 (MX.two 1 1 (MX.mv 2 6 (MX.mv 1 7 (MX.mv 1 8 (MX.mv 1 9 (MX.mv 1 10 (MX.mv 1 11 MX.done)))))) 2 6 (MX.two 1 1 (MX.mv 1 7 (MX.mv 1 8 (MX.mv 1 9 (MX.mv 1 10 (MX.mv 1 11 MX.done))))) 1 7 (MX.two 1 1 (MX.mv 1 8 (MX.mv 1 9 (MX.mv 1 10 (MX.mv 1 11 MX.done)))) 1 8 (MX.mv 1 1 (MX.mv 1 9 (MX.mv 1 10 (MX.mv 1 11 MX.done)))))))))))) ?_ (by kernel_rfl) ?_; rfl) | refine Drawn.quiet (by kernel_rfl) ?_) | refine dcell_ok rfl ?_ | refine dcell_at (strV (K.getD j emB)) (fun _ => kc_get hjl) ?_ | refine dcell_ok rfl ?_ | refine AppC.new ?_))
      all_goals try ((conv => whnf); with_reducible refine Round.mark ?_)
      all_goals try first | ((with_reducible show Option.isSome (slElem _ _) = true); kernel_rfl) | ((with_reducible show slElem _ _ = some _); kernel_rfl) | ((with_reducible refine enters_mark ?_); kernel_rfl) | (with_reducible assumption) | ((with_reducible show List.all _ DV.one = true); rfl) | ((with_reducible show (_ : Nat) = _); rfl) | ((with_reducible show (_ == true) = true); simpa using h) | ((with_reducible show (_ : Nat) ≤ _); exact Nat.le_of_ble_eq_true rfl) | ((with_reducible show (_ : Int) ≤ _); first | omega | decide) | ((with_reducible show (_ : Int) < _); first | omega | decide) | ((with_reducible show (_ : Nat) < _); omega) | ((with_reducible show (_ : Nat) ≤ _); omega)
      all_goals try (first | ((with_reducible show Option.all _ _ = true); rfl) | (exact gr_1 hj; done) | (with_reducible exact gr_2 hj4) | (with_reducible exact gr_3 hj4))
      · refine Round.go (fun _ => j + 1) hjl (by show K.length - (j + 1) < K.length - j; omega) (Weak.list [(0, some 0), (1, some 1), (2, some 2), (3, some 3), (4, some 4), (5, some 8)] [6] (by kernel_rfl) ?_ ?_)
        iterate 2 · repeat' (first | exact wsucc hjl (by omega) | exact OW.cells rfl rfl (DWl.cons (DW.aggl (DWl.cons (DW.same _ rfl) (DWl.same (mapA_all _)))) DWl.nil) | exact OW.cells rfl rfl (DWl.same (strV_all _)) | exact DW.mo _ _ rfl | exact DWl.snocE (gr_push hjl) (take_all (rowsC_all _) _) (DW.pubE rfl rfl (Nat.zero_lt_succ _) (List.mem_singleton.2 rfl) rfl strRow rfl) | exact DW.same _ rfl | exact DW.ref _ _ _ rfl | exact DW.arr _ _ _ rfl | exact OW.cells rfl rfl (DWl.same rfl) | refine OW.cells rfl rfl ?_ | refine DWl.cons ?_ ?_ | exact DWl.nil | exact DW.nilArr _ rfl | exact DW.nilLst _ | refine DW.clol ?_ ?_ | refine DW.aggl ?_ | refine DW.tupl ?_ | refine DW.int ?_ | refine DW.bool ?_ | refine DW.str ?_ | refine DW.arrE rfl ?_ | ((conv => whnf); first | refine And.intro ?_ ?_ | trivial))
      · refine Round.go (fun _ => j + 1) hjl (by show K.length - (j + 1) < K.length - j; omega) (Weak.list [(0, some 0), (1, some 1), (2, some 2), (3, some 3), (4, some 4), (5, some 8)] [6] (by kernel_rfl) ?_ ?_)
        iterate 2 · repeat' (first | exact wsucc hjl (by omega) | exact OW.cells rfl rfl (DWl.cons (DW.aggl (DWl.cons (DW.same _ rfl) (DWl.same (mapA_all _)))) DWl.nil) | exact OW.cells rfl rfl (DWl.same (strV_all _)) | exact DW.mo _ _ rfl | exact DWl.snocE (gr_push hjl) (take_all (rowsC_all _) _) (DW.pubE rfl rfl (Nat.zero_lt_succ _) (List.mem_singleton.2 rfl) rfl strRow rfl) | exact DW.same _ rfl | exact DW.ref _ _ _ rfl | exact DW.arr _ _ _ rfl | exact OW.cells rfl rfl (DWl.same rfl) | refine OW.cells rfl rfl ?_ | refine DWl.cons ?_ ?_ | exact DWl.nil | exact DW.nilArr _ rfl | exact DW.nilLst _ | refine DW.clol ?_ ?_ | refine DW.aggl ?_ | refine DW.tupl ?_ | refine DW.int ?_ | refine DW.bool ?_ | refine DW.str ?_ | refine DW.arrE rfl ?_ | ((conv => whnf); first | refine And.intro ?_ ?_ | trivial))
      · refine Round.go (fun _ => j + 1) hjl (by show K.length - (j + 1) < K.length - j; omega) (Weak.list [(0, some 0), (1, some 1), (2, some 2), (3, some 3), (4, some 4), (5, some 8)] [6] (by kernel_rfl) ?_ ?_)
        iterate 2 · repeat' (first | exact wsucc hjl (by omega) | exact OW.cells rfl rfl (DWl.cons (DW.aggl (DWl.cons (DW.same _ rfl) (DWl.same (mapA_all _)))) DWl.nil) | exact OW.cells rfl rfl (DWl.same (strV_all _)) | exact DW.mo _ _ rfl | exact DWl.snocE (gr_push hjl) (take_all (rowsC_all _) _) (DW.pubE rfl rfl (Nat.zero_lt_succ _) (List.mem_singleton.2 rfl) rfl strRow rfl) | exact DW.same _ rfl | exact DW.ref _ _ _ rfl | exact DW.arr _ _ _ rfl | exact OW.cells rfl rfl (DWl.same rfl) | refine OW.cells rfl rfl ?_ | refine DWl.cons ?_ ?_ | exact DWl.nil | exact DW.nilArr _ rfl | exact DW.nilLst _ | refine DW.clol ?_ ?_ | refine DW.aggl ?_ | refine DW.tupl ?_ | refine DW.int ?_ | refine DW.bool ?_ | refine DW.str ?_ | refine DW.arrE rfl ?_ | ((conv => whnf); first | refine And.intro ?_ ?_ | trivial))
      · refine Round.go (fun _ => j + 1) hjl (by show K.length - (j + 1) < K.length - j; omega) (Weak.list [(0, some 0), (1, some 1), (2, some 2), (3, some 3), (4, some 4), (5, some 8)] [6] (by kernel_rfl) ?_ ?_)
        iterate 2 · repeat' (first | exact wsucc hjl (by omega) | exact OW.cells rfl rfl (DWl.cons (DW.aggl (DWl.cons (DW.same _ rfl) (DWl.same (mapA_all _)))) DWl.nil) | exact OW.cells rfl rfl (DWl.same (strV_all _)) | exact DW.mo _ _ rfl | exact DWl.snocE (gr_push hjl) (take_all (rowsC_all _) _) (DW.pubE rfl rfl (Nat.zero_lt_succ _) (List.mem_singleton.2 rfl) rfl strRow rfl) | exact DW.same _ rfl | exact DW.ref _ _ _ rfl | exact DW.arr _ _ _ rfl | exact OW.cells rfl rfl (DWl.same rfl) | refine OW.cells rfl rfl ?_ | refine DWl.cons ?_ ?_ | exact DWl.nil | exact DW.nilArr _ rfl | exact DW.nilLst _ | refine DW.clol ?_ ?_ | refine DW.aggl ?_ | refine DW.tupl ?_ | refine DW.int ?_ | refine DW.bool ?_ | refine DW.str ?_ | refine DW.arrE rfl ?_ | ((conv => whnf); first | refine And.intro ?_ ?_ | trivial))
    · have hj2 : j = K.length := by omega
      subst hj2
      have hR : groupT t k = ⟨[t.head.getD k emB, cntB], grRow K (cntI t k i) K.length⟩ := by
        unfold groupT grRow; rw [← hi2, hKe, List.take_length]
      repeat' (first | with_reducible rfl | ((conv => whnf); first | refine And.intro ?_ ?_ | (intro h; first | with_reducible exact tf_no h | with_reducible exact ft_no h | exact Bool.noConfusion h | with_reducible exact h | (exfalso; exact hjl (lt_int h)) | (have ht : true = true := h; clear ht h) | skip) | ((with_reducible refine ECall.mark ?_); first | refine ECall.only ?_ (fun h => nomatch h) | refine ECall.only ?_ ?_) | ((with_reducible refine Drawn.mark ?_); first | refine Drawn.quiet (by kernel_rfl) ?_) | refine dcell_ok rfl ?_ | refine AppC.new ?_))
      all_goals try first | ((with_reducible show Option.isSome (slElem _ _) = true); kernel_rfl) | ((with_reducible show slElem _ _ = some _); kernel_rfl) | ((with_reducible refine enters_mark ?_); kernel_rfl) | (with_reducible assumption) | ((with_reducible show List.all _ DV.one = true); rfl) | ((with_reducible show (_ : Nat) = _); rfl) | ((with_reducible show (_ == true) = true); simpa using h) | ((with_reducible show (_ : Nat) ≤ _); exact Nat.le_of_ble_eq_true rfl) | ((with_reducible show (_ : Int) ≤ _); first | omega | decide) | ((with_reducible show (_ : Int) < _); first | omega | decide) | ((with_reducible show (_ : Nat) < _); omega) | ((with_reducible show (_ : Nat) ≤ _); omega)
      conv => whnf
      exact Tells.of (congrArg (fun x => DV.tup [tab x, int1 0]) hR) (Tells.mk (DW.tupl (DWl.cons (DW.aggl (DWl.cons (DW.same _ rfl) (DWl.cons (DW.pubM (l := grRow K (cntI t k i) K.length) (f := rowD) rfl (gr_len (Nat.le_refl _)) rfl rfl rowRow (rowsC_eq _)) DWl.nil))) (DWl.cons (DW.same _ rfl) DWl.nil))))
end Go.Proofs.YtlchjjchgebfiaaGreatDoor

namespace Go.Proofs.YtlchjjchgebfiaaGreatDoor
open Go.RowKit Go.Dl
attribute [local irreducible] Tri SCall TSem ECall Drawn DFun QSem PSem PCall GCall MCall Round Weak dloadE OW DWl Tells IntKind.wrap Retold ESem
def swL (l : List ByteArray) (j : Nat) : List ByteArray := (l.set (j + 1) (l.getD j emB)).set j (l.getD (j + 1) emB)
def bubL : Nat → List ByteArray → List ByteArray
  | 0, l => l
  | j + 1, l => bif lessB (l.getD (j + 1) emB) (l.getD j emB) then bubL j (swL l j) else l
def insL (t : Tb) (k : Nat) : Nat → List ByteArray
  | 0 => []
  | i + 1 => bubL i (insL t k i ++ [celA t k i])
theorem swL_len (l : List ByteArray) (j : Nat) : (swL l j).length = l.length := by rw [swL, List.length_set, List.length_set]
theorem bubL_len : ∀ (j : Nat) (l : List ByteArray), (bubL j l).length = l.length
  | 0, l => rfl
  | j + 1, l => by
    rw [bubL]
    cases lessB (l.getD (j + 1) emB) (l.getD j emB) with
    | true => rw [cond_true, bubL_len j, swL_len]
    | false => rfl
theorem insL_len (t : Tb) (k : Nat) : ∀ i, (insL t k i).length = i
  | 0 => rfl
  | i + 1 => by rw [insL, bubL_len, List.length_append, insL_len t k i]; rfl
def gdSt (t : Tb) (k i : Nat) : St := ⟨0, tmOf [(1, int1 k), (2, .ref 0 0), (4, .ref 1 0), (6, .ref 2 0), (7, .arr 3 i), (8, int1 i)], .of [(0, ⟨25, 2, [strs t.head, rowsD t.rows]⟩), (1, ⟨25, 2, [.v (.slice none 0 0), .v (.slice none 0 0)]⟩), (2, ⟨25, 2, [strs [t.head.getD k emB, cntB], .v (.slice none 0 0)]⟩), (3, ⟨9, 1, (insL t k i).map strV⟩)] 4⟩
def gdIn (t : Tb) (k i : Nat) (p : Nat × List ByteArray) : St := ⟨0, tmOf [(1, int1 k), (2, .ref 0 0), (4, .ref 1 0), (6, .ref 2 0), (7, .arr 3 (i + 1)), (8, int1 i), (9, int1 p.1)], .of [(0, ⟨25, 2, [strs t.head, rowsD t.rows]⟩), (1, ⟨25, 2, [.v (.slice none 0 0), .v (.slice none 0 0)]⟩), (2, ⟨25, 2, [strs [t.head.getD k emB, cntB], .v (.slice none 0 0)]⟩), (3, ⟨9, 1, p.2.map strV⟩)] 4⟩
def brk (L : List ByteArray) (j : Nat) : Bool := bif ((j + 1 : Nat) : Int) == ((L.length : Nat) : Int) then true else L.getD (j + 1) emB != L.getD j emB
def rnC (L : List ByteArray) : Nat → Nat
  | 0 => 0
  | j + 1 => bif brk L j then 0 else rnC L j + 1
def rnR (L : List ByteArray) : Nat → List (List ByteArray)
  | 0 => []
  | j + 1 => bif brk L j then rnR L j ++ [[L.getD j emB, numB ((rnC L j + 1 : Nat) : Int)]] else rnR L j
def geSt (t : Tb) (k : Nat) (L : List ByteArray) (j : Nat) : St := ⟨0, tmOf [(4, .ref 0 0), (6, .ref 1 0), (7, .arr 2 L.length), (11, int1 (rnC L j)), (12, int1 j)], .of [(0, ⟨25, 2, [.v (.slice none 0 0), .v (.slice none 0 0)]⟩), (1, ⟨25, 2, [strs [t.head.getD k emB, cntB], .arr 3 (rnR L j).length]⟩), (2, ⟨9, 1, L.map strV⟩), (3, ⟨22, 1, rowsC (rnR L j)⟩)] 4⟩
def groupG (t : Tb) (k : Nat) : Tb := ⟨[t.head.getD k emB, cntB], rnR (insL t k t.rows.length) (insL t k t.rows.length).length⟩
end Go.Proofs.YtlchjjchgebfiaaGreatDoor
namespace Go.Proofs.YtlchjjchgebfiaaGreatDoor
open Go.Dl
def insRev : List ByteArray → ByteArray → List ByteArray
  | [], x => [x]
  | a :: r, x => bif lessB x a then a :: insRev r x else x :: a :: r
theorem at_mid (A : List ByteArray) (a : ByteArray) (S : List ByteArray) : (A ++ a :: S).getD A.length emB = a := by
  rw [List.getD_eq_getElem?_getD, List.getElem?_append_right (Nat.le_refl _), Nat.sub_self]; rfl
theorem at_mid1 (A : List ByteArray) (a x : ByteArray) (S : List ByteArray) : (A ++ a :: x :: S).getD (A.length + 1) emB = x := by
  rw [List.getD_eq_getElem?_getD, List.getElem?_append_right (Nat.le_add_right _ 1), Nat.add_sub_cancel_left]; rfl
theorem sw_mid (A : List ByteArray) (a x : ByteArray) (S : List ByteArray) : swL (A ++ a :: x :: S) A.length = A ++ x :: a :: S := by
  rw [swL, at_mid, at_mid1, List.set_append_right _ _ (Nat.le_add_right _ 1), List.set_append_right _ _ (Nat.le_refl _), Nat.add_sub_cancel_left, Nat.sub_self]; rfl
theorem bub_ins : ∀ (r : List ByteArray) (x : ByteArray) (S : List ByteArray), bubL r.length (r.reverse ++ x :: S) = (insRev r x).reverse ++ S
  | [], x, S => rfl
  | a :: r, x, S => by
    have e : (a :: r).reverse ++ x :: S = r.reverse ++ a :: x :: S := by rw [List.reverse_cons, List.append_assoc]; rfl
    have hl : r.length = r.reverse.length := List.length_reverse.symm
    rw [e, List.length_cons, bubL, insRev]
    have h1 : (r.reverse ++ a :: x :: S).getD (r.length + 1) emB = x := by rw [hl]; exact at_mid1 _ _ _ _
    have h2 : (r.reverse ++ a :: x :: S).getD r.length emB = a := by rw [hl]; exact at_mid _ _ _
    have h3 : swL (r.reverse ++ a :: x :: S) r.length = r.reverse ++ x :: a :: S := by rw [hl]; exact sw_mid _ _ _ _
    rw [h1, h2]
    cases lessB x a with
    | true =>
      rw [cond_true, cond_true, h3, bub_ins r x (a :: S), List.reverse_cons, List.append_assoc]; rfl
    | false =>
      rw [cond_false, cond_false, List.reverse_cons, List.reverse_cons, List.append_assoc, List.append_assoc]; rfl
def revL (t : Tb) (k : Nat) : Nat → List ByteArray
  | 0 => []
  | i + 1 => insRev (revL t k i) (celA t k i)
theorem ins_rev (t : Tb) (k : Nat) : ∀ i, insL t k i = (revL t k i).reverse
  | 0 => rfl
  | i + 1 => by
    have h1 := ins_rev t k i
    have h2 : i = (revL t k i).length := by rw [← List.length_reverse, ← h1, insL_len]
    have h3 := bub_ins (revL t k i) (celA t k i) []
    rw [← h2, List.append_nil] at h3
    rw [insL, revL, h1, ← h3]
theorem insRev_perm : ∀ (r : List ByteArray) (x : ByteArray), (insRev r x).Perm (x :: r)
  | [], x => .refl _
  | a :: r, x => by
    rw [insRev]
    cases lessB x a with
    | true => exact ((insRev_perm r x).cons a).trans (.swap x a r)
    | false => exact .refl _
theorem insL_perm (t : Tb) (k i : Nat) : (insL t k (i + 1)).Perm (celA t k i :: insL t k i) := by
  rw [ins_rev, ins_rev]
  exact ((List.reverse_perm _).trans (insRev_perm _ _)).trans ((List.reverse_perm _).symm.cons _)
def Up (L : List ByteArray) : Prop := ∀ a b, a ≤ b → b < L.length → lessB (L.getD b emB) (L.getD a emB) = false
def cP (s : ByteArray) (l : List ByteArray) : Nat := l.countP fun a => s == a
theorem cP_cons (s a : ByteArray) (l : List ByteArray) : cP s (a :: l) = bif s == a then cP s l + 1 else cP s l := by
  unfold cP
  rw [List.countP_cons]
  cases s == a <;> rfl
theorem cP_zero {s : ByteArray} {l : List ByteArray} (h : ∀ a ∈ l, a ≠ s) : cP s l = 0 := by
  unfold cP
  rw [List.countP_eq_zero]
  intro a ha hb
  exact h a ha (ba_eq.1 hb).symm
theorem cP_mem {s : ByteArray} {l : List ByteArray} : 0 < cP s l ↔ s ∈ l := by
  unfold cP
  rw [List.countP_pos_iff]
  exact ⟨fun ⟨a, h1, h2⟩ => by rw [ba_eq.1 h2]; exact h1, fun h => ⟨s, h, ba_eq.2 rfl⟩⟩
theorem cnt_is (t : Tb) (k : Nat) (s : ByteArray) : ∀ i, getS s (cntI t k i) = ((cP s (insL t k i) : Nat) : Int)
  | 0 => rfl
  | i + 1 => by
    have hp : cP s (insL t k (i + 1)) = cP s (celA t k i :: insL t k i) := (insL_perm t k i).countP_eq _
    rw [hp, cP_cons, cntI, get_put]
    cases h : s == celA t k i with
    | true => rw [cond_true, cond_true, ← ba_eq.1 h, cnt_is t k s i]; rfl
    | false => rw [cond_false, cond_false, cnt_is t k s i]
theorem keys_mem (t : Tb) (k : Nat) (s : ByteArray) : ∀ i, s ∈ keysI t k i ↔ s ∈ insL t k i
  | 0 => Iff.rfl
  | i + 1 => by
    rw [(insL_perm t k i).mem_iff, List.mem_cons, ← keys_mem t k s i]
    by_cases hz : getS (celA t k i) (cntI t k i) = 0
    · rw [keys_t hz, List.mem_append, List.mem_singleton]; exact Or.comm
    · rw [keys_f hz]
      refine ⟨.inr, fun h => ?_⟩
      rcases h with rfl | h
      · refine (keys_mem t k _ i).2 (cP_mem.1 ?_)
        have := cnt_is t k (celA t k i) i
        omega
      · exact h
theorem keys_nodup (t : Tb) (k : Nat) : ∀ i, (keysI t k i).Nodup
  | 0 => List.nodup_nil
  | i + 1 => by
    by_cases hz : getS (celA t k i) (cntI t k i) = 0
    · rw [keys_t hz]
      refine List.nodup_append.2 ⟨keys_nodup t k i, List.pairwise_singleton _ _, fun a ha b hb e => ?_⟩
      rw [List.mem_singleton] at hb
      subst e hb
      have := cP_mem.2 ((keys_mem t k _ i).1 ha)
      have h2 := cnt_is t k (celA t k i) i
      omega
    · rw [keys_f hz]; exact keys_nodup t k i
def Inc (l : List ByteArray) : Prop := l.Pairwise fun a b => lessB a b = true
theorem inc_one : ∀ {l m : List ByteArray}, Inc l → Inc m → (∀ s, s ∈ l ↔ s ∈ m) → l = m
  | [], m, _, _, h => by
    cases m with
    | nil => rfl
    | cons b m => exact absurd ((h b).2 List.mem_cons_self) (by simp)
  | a :: l, m, hl, hm, h => by
    cases m with
    | nil => exact absurd ((h a).1 List.mem_cons_self) (by simp)
    | cons b m =>
      have hl := List.pairwise_cons.1 hl
      have hm := List.pairwise_cons.1 hm
      have e : a = b := by
        rcases List.mem_cons.1 ((h a).1 List.mem_cons_self) with e | h1
        · exact e
        rcases List.mem_cons.1 ((h b).2 List.mem_cons_self) with e | h2
        · exact e.symm
        have := less_asym (hm.1 a h1)
        rw [hl.1 b h2] at this; cases this
      subst e
      have ne : ∀ {s : ByteArray} {l : List ByteArray}, (∀ a' ∈ l, lessB a a' = true) → s ∈ l → s ≠ a := fun h1 h2 e => by
        have := h1 _ h2
        rw [e, less_irr] at this; cases this
      refine congrArg (a :: ·) (inc_one hl.2 hm.2 fun s => ⟨fun h1 => ?_, fun h1 => ?_⟩)
      · rcases List.mem_cons.1 ((h s).1 (List.mem_cons_of_mem _ h1)) with e | h2
        · exact absurd e (ne hl.1 h1)
        · exact h2
      · rcases List.mem_cons.1 ((h s).2 (List.mem_cons_of_mem _ h1)) with e | h2
        · exact absurd e (ne hm.1 h1)
        · exact h2
theorem sortB_perm (l : List ByteArray) : (sortB l).Perm l := List.mergeSort_perm _ _
theorem sortB_inc {l : List ByteArray} (hn : l.Nodup) : Inc (sortB l) := by
  have h1 : (sortB l).Pairwise (fun a b => (!lessB b a) = true) := by
    refine List.pairwise_mergeSort (fun a b c h1 h2 => ?_) (fun a b => ?_) l
    · rw [Bool.not_eq_true'] at *
      exact less_neg h2 h1
    · cases h : lessB b a with
      | false => rfl
      | true => rw [less_asym h]; rfl
  have h2 : (sortB l).Pairwise (· ≠ ·) := (sortB_perm l).nodup_iff.2 hn
  refine (h1.and h2).imp fun {a b} h => ?_
  cases h3 : lessB a b with
  | true => rfl
  | false => exact absurd (less_tot h3 (by simpa using h.1)) h.2
end Go.Proofs.YtlchjjchgebfiaaGreatDoor
namespace Go.Proofs.YtlchjjchgebfiaaGreatDoor
open Go.Dl
def kR (L : List ByteArray) : Nat → List ByteArray
  | 0 => []
  | j + 1 => bif brk L j then kR L j ++ [L.getD j emB] else kR L j
structure Rn (L : List ByteArray) (j : Nat) : Prop where
  cnt : j < L.length → rnC L j = cP (L.getD j emB) (L.take j)
  mem : ∀ s, s ∈ kR L j ↔ s ∈ L.take j ∧ (j < L.length → s ≠ L.getD j emB)
  inc : Inc (kR L j)
  row : rnR L j = (kR L j).map fun s => [s, numB ((cP s L : Nat) : Int)]
end Go.Proofs.YtlchjjchgebfiaaGreatDoor
namespace Go.Proofs.YtlchjjchgebfiaaGreatDoor
open Go.RowKit Go.Dl Go.Dl.Stb
attribute [local irreducible] Tri SCall TSem ECall Drawn DFun QSem PSem PCall GCall MCall Round Go.Dl.Weak dloadE OW DWl Tells IntKind.wrap Retold ESem
theorem numB_size {n : Int} (h0 : -9223372036854775808 ≤ n) (h1 : n ≤ 9223372036854775807) : (numB n).size ≤ 21 := by
  have := Lib.itoa_length_le n h0 h1
  show (Lib.itoa n).toArray.size ≤ 21
  simpa using this
theorem sml_group {t : Tb} (ht : Fitt t) {k : Nat} (hk : k < t.head.length) : SmlT (groupT t k) := by
  have hr := ht.rows
  have hkl := keys_len t k t.rows.length
  have hks := keys_small ht.tbl hk (Nat.le_refl t.rows.length)
  have hh : (t.head.getD k emB).size ≤ 1024 := by
    refine ht.cell _ (.inl rfl) _ ?_
    rw [List.getD_eq_getElem?_getD, List.getElem?_eq_getElem hk]; exact List.getElem_mem _
  refine ⟨⟨(show 2 * 16 ≤ 140737488355328 by decide), fun s hs => ?_⟩, ?_, fun r hm => ?_⟩
  · have hs : s ∈ [t.head.getD k emB, cntB] := hs
    simp only [List.mem_cons, List.not_mem_nil, or_false] at hs
    rcases hs with rfl | rfl
    · exact Nat.le_trans hh (by decide)
    · decide
  · show ((sortB (keysI t k t.rows.length)).map _).length * 24 ≤ _
    rw [List.length_map, sortB_len]; omega
  · obtain ⟨s, hs, rfl⟩ := List.mem_map.1 hm
    refine ⟨(show 2 * 16 ≤ 140737488355328 by decide), fun x hx => ?_⟩
    simp only [List.mem_cons, List.not_mem_nil, or_false] at hx
    rcases hx with rfl | rfl
    · exact Nat.le_trans (hks _ ((sortB_perm _).mem_iff.1 hs)) (by decide)
    · have := cnt_in t k s t.rows.length
      exact Nat.le_trans (numB_size (by omega) (by omega)) (by decide)
theorem Fitt.row {t : Tb} (h : Fitt t) : ∀ r ∈ t.rows, RowOk (t.head.map strD).length r := fun r hr => by
  rw [List.length_map]
  exact ⟨h.len r hr, h.head.2, h.cell r (.inr hr)⟩
structure Both (f g : FuncId) (args : List DV) (a : Tb) (e : Int) : Prop where
  p : DPure Tryz.prog f args (.tup [tab a, int1 e])
  q : DPure Tryz.prog g args (.tup [tab a, int1 e])
  s : SmlT a
attribute [local irreducible] fitB pgV
set_option maxRecDepth 20000 in
theorem kin_wf {x : Int} (h : (Lit.int .i64 x).wf = true) : KIn x := by
  unfold Lit.wf at h
  rw [Bool.and_eq_true] at h
  have h1 : (-9223372036854775808 : Int) ≤ x := of_decide_eq_true h.1
  have h2 : x ≤ (9223372036854775807 : Int) := of_decide_eq_true h.2
  exact ⟨h1, h2⟩
set_option maxRecDepth 20000 in
theorem int_row (r : List DV) (h : Shp Tryz.prog 3 r) : ∃ x : Int, r = intD x ∧ KIn x := by
  obtain ⟨x, e, h⟩ := Shp.int_inv Tryz.underlying3 h
  exact ⟨x, e, kin_wf h⟩
set_option maxRecDepth 20000 in
theorem int_arg {d : DV} (h : ShpV Tryz.prog 3 d) : ∃ x : Int, d = int1 x ∧ KIn x := by
  obtain ⟨x, e, h⟩ := ShpV.int_inv Tryz.underlying3 h
  exact ⟨x, e, kin_wf h⟩
set_option maxRecDepth 20000 in
theorem cells3 : Tryz.prog.cellsOf 3 = 1 := by kernel_rfl
set_option maxRecDepth 20000 in
theorem bytes3 : Tryz.prog.bytesOf 3 = 8 := by kernel_rfl
set_option maxRecDepth 20000 in
theorem ints_arg {d : DV} (h : ShpV Tryz.prog 41 d) : ∃ l : List Int, d = ints l ∧ l.length ≤ 17592186044416 ∧ ∀ k ∈ l, KIn k := by
  obtain ⟨l, h1, h2, h3⟩ := ShpV.slice_inv Tryz.underlying41 int_row h
  rw [cells3] at h1
  rw [bytes3] at h2
  have h4 : l.length * 8 ≤ 140737488355328 := Nat.le_trans h2 (Nat.le_of_ble_eq_true rfl)
  exact ⟨l, h1, by omega, h3⟩
end Go.Proofs.YtlchjjchgebfiaaGreatDoor
namespace Go.Proofs.YtlchjjchgebfiaaGreatDoor
open Go.Dl Go.Dl.Stb
theorem pg_step {N s k : Nat} (hs : 1 ≤ s) (hk : k < pgs N s) (l : List (List ByteArray)) (hl : l.length = N) : l.take (k * s) ++ (l.take (pgHi N s k)).drop (pgLo s k) = l.take ((k + 1) * s) := by
  obtain ⟨h1, _⟩ := pg_le hs hk
  have e : l.take (pgHi N s k) = l.take ((k + 1) * s) := by
    unfold pgHi
    rw [Nat.succ_mul]
    rcases Nat.le_total N (k * s + s) with h | h
    · rw [Nat.min_eq_left h, List.take_of_length_le (Nat.le_of_eq hl), List.take_of_length_le (by omega)]
    · rw [Nat.min_eq_right h]
  rw [e]
  unfold pgLo
  have h2 : (l.take ((k + 1) * s)).take (k * s) = l.take (k * s) := by
    rw [List.take_take, Nat.min_eq_left (Nat.mul_le_mul_right s (Nat.le_succ k))]
  rw [← h2, List.take_append_drop]
theorem pg_all {N s : Nat} (hs : 1 ≤ s) (l : List (List ByteArray)) (hl : l.length = N) : l.take (pgs N s * s) = l := by
  refine List.take_of_length_le ?_
  have h := Nat.div_add_mod N s
  have h2 := Nat.mod_lt N (show 0 < s by omega)
  rw [hl]
  unfold pgs
  rw [Nat.mul_comm] at h
  split
  · rw [Nat.succ_mul]; omega
  · omega
theorem pg_pos (N s : Nat) : 0 < pgs N s := by
  unfold pgs
  have h := Nat.div_add_mod N s
  split
  · exact Nat.succ_pos _
  · rename_i h1
    rcases Nat.eq_zero_or_pos (N / s) with h2 | h2
    · rw [h2, Nat.mul_zero] at h; omega
    · exact h2
theorem pg_small {N s k : Nat} (hs : 1 ≤ s) (_hk : k < pgs N s) (l : List (List ByteArray)) : ((l.take (pgHi N s k)).drop (pgLo s k)).length ≤ s := by
  rw [List.length_drop, List.length_take]
  unfold pgHi pgLo
  omega
theorem pg_le2 {N s : Nat} (_hs : 1 ≤ s) : pgs N s ≤ N + 1 := by
  unfold pgs
  have := Nat.div_le_self N s
  split <;> omega
theorem pgV_at {t : Tb} {s k : Nat} (hs : 1 ≤ s) (hk : k < pgs t.rows.length s) : pgV t s k = (⟨t.head, (t.rows.take (pgHi t.rows.length s k)).drop (pgLo s k)⟩, ((pgs t.rows.length s : Nat) : Int), 0) := by
  unfold pgV
  rw [if_neg (by omega), Int.toNat_natCast, Int.toNat_natCast, if_neg (by omega)]
theorem sum_add (L : List ByteArray) (a : ByteArray) : ∀ K : List ByteArray, (K.map fun s => cP s (a :: L)).sum = (K.map fun s => cP s L).sum + cP a K
  | [] => rfl
  | b :: K => by
    have h := sum_add L a K
    rw [List.map_cons, List.map_cons, List.sum_cons, List.sum_cons, h, cP_cons, cP_cons]
    cases h1 : b == a with
    | true =>
      rw [show (a == b) = true from ba_eq.2 (ba_eq.1 h1).symm, cond_true, cond_true]; omega
    | false =>
      have : (a == b) = false := by
        cases h2 : a == b with
        | false => rfl
        | true => rw [ba_eq.2 (ba_eq.1 h2).symm] at h1; cases h1
      rw [this, cond_false, cond_false]; omega
theorem cP_one {a : ByteArray} : ∀ {K : List ByteArray}, K.Nodup → a ∈ K → cP a K = 1
  | [], _, h => by cases h
  | b :: K, hn, h => by
    rw [List.nodup_cons] at hn
    rw [cP_cons]
    by_cases e : a = b
    · subst e
      rw [ba_eq.2 rfl, cond_true, cP_zero (fun x hx (e : x = a) => hn.1 (by rw [← e]; exact hx))]
    · have : (a == b) = false := by
        cases h2 : a == b with
        | false => rfl
        | true => exact absurd (ba_eq.1 h2) e
      rw [this, cond_false]
      exact cP_one hn.2 ((List.mem_cons.1 h).resolve_left e)
theorem sum_nil : ∀ K : List ByteArray, (K.map fun s => cP s []).sum = 0
  | [] => rfl
  | b :: K => by rw [List.map_cons, List.sum_cons, sum_nil K]; rfl
theorem sum_is {K : List ByteArray} (hn : K.Nodup) : ∀ {L : List ByteArray}, (∀ s ∈ L, s ∈ K) → (K.map fun s => cP s L).sum = L.length
  | [], _ => sum_nil K
  | a :: L, h => by
    rw [sum_add, sum_is hn fun s hs => h s (List.mem_cons_of_mem _ hs), cP_one hn (h a List.mem_cons_self)]; rfl
def keyL (t : Tb) (k : Nat) : List ByteArray := sortB (keysI t k t.rows.length)
theorem keyL_inc (t : Tb) (k : Nat) : Inc (keyL t k) := sortB_inc (keys_nodup t k _)
theorem keyL_sum (t : Tb) (k : Nat) : ((keyL t k).map fun s => cP s (insL t k t.rows.length)).sum = t.rows.length := by
  have h1 : (keyL t k).Nodup := (sortB_perm _).nodup_iff.2 (keys_nodup t k _)
  rw [sum_is h1 fun s hs => (sortB_perm _).mem_iff.2 ((keys_mem t k s _).2 hs), insL_len]
theorem stab_cl (lt : Nat → Nat → Bool) (hw : Stb.Weak lt) (n : Nat) : ∀ i, i < n → stab lt n i < n := fun i hi => by
  obtain ⟨j, _, h2, e⟩ := (stab_ord hw n).2.from_ i (Nat.zero_le _) hi
  rw [e]; exact h2
theorem sort_at (t : Tb) (ks : List Int) {j : Nat} (hj : j < t.rows.length) : (sortL t ks).rows.getD j [] = t.rows.getD (stab (ltK ks t.rows) t.rows.length j) [] := by
  show ((List.range t.rows.length).map _).getD j [] = _
  rw [List.getD_eq_getElem?_getD, List.getElem?_map, List.getElem?_range hj]; rfl
theorem sort_mem {t : Tb} {ks : List Int} {r : List ByteArray} (h : r ∈ (sortL t ks).rows) : r ∈ t.rows := by
  obtain ⟨j, hj, rfl⟩ := List.mem_map.1 h
  exact row_mem (stab_cl _ (weakK ks t.rows) _ j (List.mem_range.1 hj))
theorem sort_fit {t : Tb} (h : Fitt t) (ks : List Int) : Fitt (sortL t ks) := ⟨by rw [so_rl]; exact h.rows, h.head, h.rowB_h, fun r hr => h.rowB_r r (sort_mem hr)⟩
theorem sort_idem (t : Tb) (ks : List Int) : sortL (sortL t ks) ks = sortL t ks := by
  have hn := so_rl t ks
  have hw := weakK ks (sortL t ks).rows
  have hw0 := weakK ks t.rows
  have ho := (stab_ord hw0 t.rows.length).1
  have o2 : Ord (ltK ks (sortL t ks).rows) (fun i => i) 0 t.rows.length := fun i j _ h2 h3 => by
    have h4 := ho i j (Nat.zero_le _) h2 h3
    refine .inr ⟨?_, h2⟩
    unfold ltK
    rw [sort_at t ks h3, sort_at t ks (Nat.lt_trans h2 h3)]
    rcases h4 with h4 | h4
    · exact hw0.asym _ _ h4
    · exact h4.1
  have h1 := stab_ord hw t.rows.length
  have h2 := ord_unique hw h1.2 (Mix.refl 0 t.rows.length fun i => i) h1.1 o2
  have e : sortL (sortL t ks) ks = ⟨t.head, (List.range t.rows.length).map fun j => (sortL t ks).rows.getD (stab (ltK ks (sortL t ks).rows) t.rows.length j) []⟩ := by
    show Tb.mk _ _ = Tb.mk _ _
    rw [hn]; rfl
  rw [e]
  show Tb.mk _ _ = Tb.mk _ _
  congr 1
  refine List.map_congr_left fun j hj => ?_
  have hj := List.mem_range.1 hj
  rw [h2 j hj, sort_at t ks hj]
theorem ins_cells (t : Tb) (k : Nat) : ∀ i, (insL t k i).Perm ((List.range i).map (celA t k))
  | 0 => .refl _
  | i + 1 => by
    rw [List.range_succ, List.map_append]
    refine (insL_perm t k i).trans (((ins_cells t k i).cons _).trans ?_)
    exact (List.perm_append_comm (l₁ := [celA t k i])).trans (.refl _)
theorem perm_sub : ∀ {l m : List Nat}, l.Nodup → (∀ a ∈ l, a ∈ m) → l.length = m.length → l.Perm m
  | [], m, _, _, h => by
    rw [List.eq_nil_of_length_eq_zero h.symm]
  | a :: l, m, hn, hs, h => by
    rw [List.nodup_cons] at hn
    have ha := hs a List.mem_cons_self
    have h1 := List.perm_cons_erase ha
    have h2 := h1.length_eq
    refine (List.Perm.cons a (perm_sub hn.2 (fun b hb => ?_) ?_)).trans h1.symm
    · exact (List.mem_erase_of_ne (fun (e : b = a) => hn.1 (by rw [← e]; exact hb))).2 (hs b (List.mem_cons_of_mem _ hb))
    · rw [List.length_cons] at h h2; omega
theorem stab_perm (lt : Nat → Nat → Bool) (hw : Stb.Weak lt) (n : Nat) : ((List.range n).map (stab lt n)).Perm (List.range n) := by
  have hm := (stab_ord hw n).2
  have hsub : ∀ a ∈ List.range n, a ∈ (List.range n).map (stab lt n) := fun a ha => by
    obtain ⟨i, _, h2, e⟩ := hm.to_ a (Nat.zero_le _) (List.mem_range.1 ha)
    exact List.mem_map.2 ⟨i, List.mem_range.2 h2, e⟩
  exact (perm_sub List.nodup_range hsub (List.length_map _).symm).symm
theorem sort_cells (t : Tb) (ks : List Int) (k : Nat) : (insL (sortL t ks) k (sortL t ks).rows.length).Perm (insL t k t.rows.length) := by
  refine (ins_cells _ k _).trans (List.Perm.trans ?_ (ins_cells t k _).symm)
  rw [so_rl]
  have e : (List.range t.rows.length).map (celA (sortL t ks) k) = ((List.range t.rows.length).map (stab (ltK ks t.rows) t.rows.length)).map (celA t k) := by
    rw [List.map_map]
    refine List.map_congr_left fun j hj => ?_
    show ((sortL t ks).rows.getD j []).getD k emB = _
    rw [sort_at t ks (List.mem_range.1 hj)]; rfl
  rw [e]
  exact (stab_perm _ (weakK ks t.rows) _).map _
theorem group_sort (t : Tb) (ks : List Int) (k : Nat) : groupT (sortL t ks) k = groupT t k := by
  have hp := sort_cells t ks k
  have hk : sortB (keysI (sortL t ks) k (sortL t ks).rows.length) = sortB (keysI t k t.rows.length) := by
    refine inc_one (sortB_inc (keys_nodup _ k _)) (sortB_inc (keys_nodup t k _)) fun s => ?_
    rw [(sortB_perm _).mem_iff, (sortB_perm _).mem_iff, keys_mem, keys_mem, hp.mem_iff]
  unfold groupT
  rw [hk]
  show Tb.mk _ _ = Tb.mk _ _
  congr 1
  refine List.map_congr_left fun s _ => ?_
  rw [cnt_is, cnt_is, show cP s (insL (sortL t ks) k (sortL t ks).rows.length) = cP s (insL t k t.rows.length) from hp.countP_eq _]
theorem num_nat {u : Nat} (h2 : u < 9223372036854775808) : (numD (numB (u : Int))).1 = (u : Int) := by
  have hs : (numB (u : Int)).data.toList = Lib.itoa (u : Int) := rfl
  rw [Lib.itoa_nonneg u] at hs
  obtain ⟨c, r, e, c1, c2, c3⟩ := dec_head u
  have hn : negB (numB (u : Int)) = false := by
    cases hn : negB (numB (u : Int)) with
    | false => rfl
    | true =>
      obtain ⟨r', hr⟩ := neg_iff.1 hn
      rw [hs, e] at hr
      cases hr
      exact absurd c1 (by decide)
  have hd := dig_same hn
  have hf : badF (numB (u : Int)) = false := ok_form (by rw [hd, hs, e]; exact Nat.succ_le_succ (Nat.zero_le _)) (by rw [hd, hs]; exact dec_19 (by omega)) (fun e2 => by
    rw [hd, hs, e] at e2
    refine ⟨?_, hn⟩
    rw [hd, hs, e, (c3 e2).2]; rfl)
  rw [numD, hf, hd, hs, dec_all, val_dec, hn]
  simp only [Bool.cond_false, Bool.not_true]
  exact wrapI (by omega) (by omega)
end Go.Proofs.YtlchjjchgebfiaaGreatDoor
