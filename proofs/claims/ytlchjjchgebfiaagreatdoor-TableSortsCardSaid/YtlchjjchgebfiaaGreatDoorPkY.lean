/- Groups of a table: the program's. -/
import Derived.Test.YtlchjjchgebfiaaGreatDoorPkS
import Derived.Test.YtlchjjchgebfiaaGreatDoorDp34
import Derived.Test.YtlchjjchgebfiaaGreatDoorPkH

namespace Go.Proofs.YtlchjjchgebfiaaGreatDoor
open Go.RowKit Go.Dl
attribute [local irreducible] Tri SCall TSem ECall Drawn DFun QSem PSem PCall GCall MCall Round Weak dloadE OW DWl Tells IntKind.wrap Retold ESem
def cntI (t : Tb) (k : Nat) : Nat → AL
  | 0 => []
  | i + 1 => putS (celA t k i) (getS (celA t k i) (cntI t k i) + 1) (cntI t k i)
def keysI (t : Tb) (k : Nat) : Nat → List ByteArray
  | 0 => []
  | i + 1 => bif getS (celA t k i) (cntI t k i) == 0 then keysI t k i ++ [celA t k i] else keysI t k i
theorem get_put (s a : ByteArray) (v : Int) : ∀ l : AL, getS s (putS a v l) = bif s == a then v else getS s l
  | [] => rfl
  | (b, c) :: l => by
    rw [putS]
    cases h : a == b with
    | true =>
      have e := ba_eq.1 h
      subst e
      rw [cond_true, getS, getS]
      cases s == a <;> rfl
    | false =>
      rw [cond_false, getS, getS, get_put s a v l]
      cases h2 : s == b with
      | true =>
        have e := ba_eq.1 h2
        subst e
        cases h3 : s == a with
        | true => rw [ba_eq.1 h3, ba_eq.2 rfl] at h; cases h
        | false => rfl
      | false => rfl
theorem cnt_in (t : Tb) (k : Nat) (s : ByteArray) : ∀ i, 0 ≤ getS s (cntI t k i) ∧ getS s (cntI t k i) ≤ i
  | 0 => ⟨Int.le_refl 0, Int.le_refl 0⟩
  | i + 1 => by
    rw [cntI, get_put]
    cases h : s == celA t k i with
    | true =>
      have := cnt_in t k (celA t k i) i
      rw [cond_true]; omega
    | false =>
      have := cnt_in t k s i
      rw [cond_false]; omega
theorem cnt_w {t : Tb} {k i : Nat} (hi : i ≤ 4096) : IntKind.i64.wrap (getS (celA t k i) (cntI t k i) + 1) = getS (celA t k i) (cntI t k i) + 1 := by
  have := cnt_in t k (celA t k i) i
  exact wrapI (by omega) (by omega)
theorem keys_len (t : Tb) (k : Nat) : ∀ i, (keysI t k i).length ≤ i
  | 0 => Nat.le_refl 0
  | i + 1 => by
    have := keys_len t k i
    rw [keysI]
    cases getS (celA t k i) (cntI t k i) == 0 with
    | true => rw [cond_true, List.length_append]; simp; omega
    | false => rw [cond_false]; omega
theorem mapA_all : ∀ l : AL, (mapC (encA l)).all noId1 = true
  | [] => rfl
  | _ :: l => mapA_all l
theorem mup_ok {t : Tb} {k i : Nat} (hi : i ≤ 4096) {es : Array MapEntry} {clk b : Nat} {w : World} (he : es.toList.map ent = encA (cntI t k i)) (hb : w.heap[b]? = some (.map es clk)) :
    ∃ es' clk', es'.toList.map ent = encA (cntI t k (i + 1)) ∧ (Instr.mapUpdate 100 (.map (some b)) (.string (celA t k i)) (.int .i64 (IntKind.i64.wrap (getS (celA t k i) (cntI t k i) + 1)))).run Tryz.prog w = .ok () (w.putObj b (.map es' clk')) := by
  rw [cnt_w hi]
  exact upd_run _ _ he hb
theorem keys_t {t : Tb} {k i : Nat} (h : getS (celA t k i) (cntI t k i) = 0) : keysI t k (i + 1) = keysI t k i ++ [celA t k i] := by rw [keysI, h]; rfl
theorem keys_f {t : Tb} {k i : Nat} (h : ¬ getS (celA t k i) (cntI t k i) = 0) : keysI t k (i + 1) = keysI t k i := by rw [keysI, show (getS (celA t k i) (cntI t k i) == 0) = false from beq_eq_false_iff_ne.2 h]; rfl
theorem z_t {x : Int} (h : x = 0) (k : (x == 0) = false) : False := by subst h; cases k
theorem z_f {x : Int} (h : ¬ x = 0) (k : (x == 0) = true) : False := h (eq_of_beq k)
set_option maxRecDepth 20000 in
theorem ky_1 (t : Tb) (k i : Nat) : (keysI t k i).length * Tryz.prog.types[9].size ≤ ((keysI t k i).map strV).length := by
  show _ * 1 ≤ _
  rw [List.length_map, Nat.mul_one]; exact Nat.le_refl _
set_option maxRecDepth 20000 in
theorem ky_2 {t : Tb} {k i : Nat} (hi : i ≤ 4096) : ((keysI t k i).length + 1) * Tryz.prog.types[9].bytes ≤ 140737488355328 := by
  show (_ + 1) * 16 ≤ _
  have := keys_len t k i
  omega
theorem ky_3 {t : Tb} {k i : Nat} (hi : i ≤ 4096) : (keysI t k i).length + 1 ≤ maxLen := by
  have := keys_len t k i
  simp only [maxLen]; omega
theorem ky_push {t : Tb} {k i : Nat} (h : getS (celA t k i) (cntI t k i) = 0) : ((keysI t k i).map strV).take ((keysI t k i).length * 1) ++ [strV (celA t k i)] = (keysI t k (i + 1)).map strV := by
  rw [keys_t h, List.map_append, List.take_of_length_le (by rw [List.length_map]; omega)]; rfl
theorem ky_len {t : Tb} {k i : Nat} (h : getS (celA t k i) (cntI t k i) = 0) : (keysI t k i).length + 1 = (keysI t k (i + 1)).length := by
  rw [keys_t h, List.length_append]; rfl
theorem strV_all : ∀ l : List ByteArray, (l.map strV).all noId1 = true
  | [] => rfl
  | _ :: l => strV_all l
theorem keys_small {t : Tb} (ht : Tbl t) {k : Nat} (hk : k < t.head.length) : ∀ {i : Nat}, i ≤ t.rows.length → ∀ s ∈ keysI t k i, s.size ≤ 1024
  | 0, _, s, h => by cases h
  | i + 1, hi, s, h => by
    rw [keysI] at h
    cases hz : getS (celA t k i) (cntI t k i) == 0 with
    | true =>
      rw [hz, cond_true, List.mem_append, List.mem_singleton] at h
      rcases h with h | rfl
      · exact keys_small ht hk (Nat.le_of_succ_le hi) s h
      · exact cel_size ht hk hi
    | false =>
      rw [hz, cond_false] at h
      exact keys_small ht hk (Nat.le_of_succ_le hi) s h
theorem itoa60_D (n : Int) (h0 : -9223372036854775808 ≤ n) (h1 : n ≤ 9223372036854775807) : DPure Tryz.prog 60 [int1 n] (strV (numB n)) :=
  DPure.kit (args := [.int .i64 n]) fun w hg => (Go.Proofs.Any.strconv_Itoa Tryz.laysItoa n h0 h1 w hg.2.2.2).mono fun e w' ⟨he, k, os, hw⟩ => by
    subst hw
    exact ⟨_, he, below_grow w k os, fun F hF => .data (.v _ rfl)⟩
def cntB : ByteArray := ⟨#[99, 111, 117, 110, 116]⟩
def grRow (K : List ByteArray) (C : AL) (j : Nat) : List (List ByteArray) := (K.take j).map fun s => [s, numB (getS s C)]
def gqSt (K : List ByteArray) (C : AL) (h : ByteArray) (j : Nat) : St := ⟨0, tmOf [(4, .ref 0 0), (6, .ref 2 0), (9, .ref 4 0), (48, .arr 3 K.length), (49, int1 K.length), (50, int1 j)], .of [(0, ⟨25, 2, [.v (.slice none 0 0), .v (.slice none 0 0)]⟩), (1, mapO (encA C)), (2, ⟨100, 1, [.mo 1]⟩), (3, ⟨9, 1, K.map strV⟩), (4, ⟨25, 2, [strs [h, cntB], .arr 5 j]⟩), (5, ⟨22, 1, rowsC (grRow K C j)⟩)] 6⟩
theorem kc_get {K : List ByteArray} {j : Nat} (h : j < K.length) : (K.map strV)[((j : Nat) : Int).toNat * 1]? = some (strV (K.getD j emB)) := by
  rw [Int.toNat_natCast, Nat.mul_one, List.getElem?_map, List.getElem?_eq_getElem h, List.getD_eq_getElem?_getD, List.getElem?_eq_getElem h]; rfl
theorem gr_len {K : List ByteArray} {C : AL} {j : Nat} (h : j ≤ K.length) : (grRow K C j).length = j := by
  unfold grRow; rw [List.length_map, List.length_take]; omega
theorem gr_push {K : List ByteArray} {C : AL} {j : Nat} (h : j < K.length) : (rowsC (grRow K C j)).take (j * 1) ++ [strs [K.getD j emB, numB (getS (K.getD j emB) C)]] = rowsC (grRow K C (j + 1)) := by
  rw [List.take_of_length_le (by rw [rowsC_len, gr_len (Nat.le_of_lt h)]; omega), rowsC_map, rowsC_map]
  unfold grRow
  rw [List.take_succ_eq_append_getElem h, List.map_append, List.map_append, List.getD_eq_getElem?_getD, List.getElem?_eq_getElem h]; rfl
set_option maxRecDepth 20000 in
theorem gr_2 {j : Nat} (h : j ≤ 4096) : (j + 1) * Tryz.prog.types[22].bytes ≤ 140737488355328 := by
  show (j + 1) * 24 ≤ _
  omega
theorem gr_3 {j : Nat} (h : j ≤ 4096) : j + 1 ≤ maxLen := by simp only [maxLen]; omega
set_option maxRecDepth 20000 in
theorem gr_1 {K : List ByteArray} {C : AL} {j : Nat} (h : j ≤ K.length) : j * Tryz.prog.types[22].size ≤ (rowsC (grRow K C j)).length := by
  show j * 1 ≤ _
  rw [rowsC_len, gr_len h]; omega
def groupT (t : Tb) (k : Nat) : Tb := ⟨[t.head.getD k emB, cntB], (sortB (keysI t k t.rows.length)).map fun s => [s, numB (getS s (cntI t k t.rows.length))]⟩
def gpSt (t : Tb) (k lb i : Nat) : St := ⟨⟨7, [.normal]⟩, tmOf [(0, .clo (.yield lb) [] []), (1, .ref 5 0), (2, .ref 6 0), (7, rowsD t.rows), (8, int1 (t.rows.map rowD).length), (9, int1 i)], .of [(0, ⟨25, 2, [strs t.head, rowsD t.rows]⟩), (1, ⟨25, 2, [.v (.slice none 0 0), .v (.slice none 0 0)]⟩), (2, mapO (encA (cntI t k i))), (3, ⟨100, 1, [.mo 2]⟩), (4, ⟨22, 1, [.arr 7 (keysI t k i).length]⟩), (5, ⟨25, 2, tbD t⟩), (6, ⟨3, 1, [int1 k]⟩), (7, ⟨9, 1, (keysI t k i).map strV⟩)] 8⟩
set_option maxRecDepth 100000 in
set_option maxHeartbeats 2000000 in
theorem group23_D (t : Tb) (ht : Tbl t) (by_ : Int) (k : Nat) (hk : k < t.head.length) (he : by_ = k) : DPure Tryz.prog 23 [tab t, int1 by_] (.tup [tab (groupT t k), int1 0]) := by
  subst he
  have hkn : (decide ((k : Int) < 0) == false) = true := by rw [decide_eq_false (by omega)]; rfl
  have hkh : (k : Int) < (((t.head.map strD).length : Nat) : Int) := by rw [List.length_map]; omega
  have hkt : (bif decide ((k : Int) < 0) then true else decide ((((t.head.map strD).length : Nat) : Int) ≤ (k : Int))) = false := by rw [decide_eq_false (by omega), List.length_map, decide_eq_false (by omega)]; rfl
  refine DFun.data (DFun.body Tryz.func23 rfl (by kernel_rfl) ?_)
  repeat' (first | with_reducible rfl | ((conv => whnf); first | refine And.intro ?_ ?_ | (intro h; first | with_reducible exact tf_no h | with_reducible exact ft_no h | exact Bool.noConfusion h | with_reducible exact h | (exfalso; exact bt_x hkt h) | (have ht : true = true := h; clear ht h) | skip) | ((with_reducible refine SCall.mark ?_); first | refine SCall.run Tryz.func55 rfl (Nat.le_of_ble_eq_true rfl) (by kernel_rfl) ?_) | ((with_reducible refine ECall.mark ?_); first | refine ECall.only ?_ (fun h => nomatch h) | refine ECall.only ?_ ?_) | ((with_reducible refine Drawn.mark ?_); first | refine Drawn.quiet (by kernel_rfl) ?_) | refine dloadE_map (emB) ?_ ?_ | refine dcell_ok rfl ?_ | refine AppC.new ?_))
  all_goals try (first | (with_reducible exact hkn))
  all_goals try first | ((with_reducible show Option.isSome (slElem _ _) = true); kernel_rfl) | ((with_reducible show slElem _ _ = some _); kernel_rfl) | ((with_reducible refine enters_mark ?_); kernel_rfl) | (with_reducible assumption) | ((with_reducible show List.all _ DV.one = true); rfl) | ((with_reducible show (_ : Nat) = _); rfl) | ((with_reducible show (_ == true) = true); simpa using h) | ((with_reducible show (_ : Nat) ≤ _); exact Nat.le_of_ble_eq_true rfl) | ((with_reducible show (_ : Int) ≤ _); first | omega | decide) | ((with_reducible show (_ : Int) < _); first | omega | decide) | ((with_reducible show (_ : Nat) < _); omega) | ((with_reducible show (_ : Nat) ≤ _); omega)
  conv => whnf
  refine Tri.range rfl (by kernel_rfl) rfl rfl (by rfl) (by kernel_rfl) fun lb => ?_
  repeat' (first | with_reducible rfl | ((conv => whnf); first | refine And.intro ?_ ?_ | (intro h; first | with_reducible exact tf_no h | with_reducible exact ft_no h | exact Bool.noConfusion h | with_reducible exact h | (have ht : true = true := h; clear ht h) | skip) | ((with_reducible refine ECall.mark ?_); first | refine ECall.only ?_ (fun h => nomatch h) | refine ECall.only ?_ ?_) | ((with_reducible refine Drawn.mark ?_); first | refine Drawn.quiet (by kernel_rfl) ?_) | refine dloadE_map (emB) ?_ ?_ | refine dcell_ok rfl ?_ | refine AppC.new ?_))
  all_goals first | (with_reducible refine enters_mark ?_; kernel_rfl) | (with_reducible refine boolT_mark ?_; kernel_rfl) | rfl | trivial | assumption | exact Nat.le_of_ble_eq_true rfl | (show entersB _ _ = true; kernel_rfl) | exact DW.same _ rfl | exact DW.ref _ _ _ rfl | exact DW.arr _ _ _ rfl | refine DW.int ?_ | refine dvb ?_ | refine dvi ?_ | exact OW.cells rfl rfl (DWl.same rfl) | exact Nat.zero_le _ | omega | skip
  all_goals repeat' (first | refine OW.cells rfl rfl ?_ | exact DW.nilArr _ rfl | refine DWl.cons ?_ ?_ | exact DWl.nil | exact DW.same _ rfl | exact DW.ref _ _ _ rfl | exact DW.arr _ _ _ rfl | exact DW.sub _ _ _ _ rfl | exact DW.mo _ _ rfl | exact DW.nilLst _ | refine DW.aggl ?_ | refine DW.tupl ?_ | refine DW.clol ?_ ?_)
  all_goals try ((conv => whnf); with_reducible first | refine Round.mark ?_ | refine Tells.mark ?_ | refine Retold.mark ?_)
  all_goals try first | (show (_ : Bool) = _; simp_all; done) | (show (_ : Int) < _; simp at *; omega) | (show (_ : Int) ≤ _; simp at *; omega) | (show (_ : Nat) < _; simp at *; omega) | (show (_ : Nat) ≤ _; simp at *; omega)
  conv => whnf
  refine Tri.loop (gpSt t k lb) (· ≤ t.rows.length) (fun i => t.rows.length - i) 0 (by kernel_rfl) (Weak.list [(7, none)] [] (by kernel_rfl) ?_ ?_) (Nat.zero_le _) ?_
  iterate 2 · repeat' (first | exact DW.nilArr _ rfl | exact DW.mo _ _ rfl | exact DWl.same rfl | exact DW.same _ rfl | exact DW.ref _ _ _ rfl | exact DW.arr _ _ _ rfl | exact OW.cells rfl rfl (DWl.same rfl) | refine OW.cells rfl rfl ?_ | refine DWl.cons ?_ ?_ | exact DWl.nil | exact DW.nilArr _ rfl | exact DW.nilLst _ | refine DW.clol ?_ ?_ | refine DW.aggl ?_ | refine DW.tupl ?_ | refine DW.int ?_ | refine DW.bool ?_ | refine DW.str ?_ | refine DW.arrE rfl ?_ | ((conv => whnf); first | refine And.intro ?_ ?_ | trivial))
  intro i hi
  have hi : i ≤ t.rows.length := hi
  have hi4 : i ≤ 4096 := Nat.le_trans hi ht.rows
  show dcode _ _ _ _ (gpSt t k lb i) _
  by_cases hil : i < t.rows.length
  · have hlt : (i : Int) < (((t.rows.map rowD).length : Nat) : Int) := by rw [List.length_map]; omega
    by_cases hz : getS (celA t k i) (cntI t k i) = 0
    · repeat' (first | with_reducible rfl | ((conv => whnf); first | refine And.intro ?_ ?_ | (intro h; first | with_reducible exact tf_no h | with_reducible exact ft_no h | exact Bool.noConfusion h | with_reducible exact h | (exfalso; exact of_decide_eq_false h hlt) | (exfalso; exact z_t hz h) | (have ht : true = true := h; clear ht h) | skip) | ((with_reducible refine ex_mark ?_); first | refine dq_mlook (kv := .string (celA t k i)) (l := encA (cntI t k i)) (int1 (getS (celA t k i) (cntI t k i))) (.int .i64 (getS (celA t k i) (cntI t k i))) rfl rfl rfl (fun es clk b w he hb => look_run _ he hb) (fun w F β => .data (.v _ rfl)) ?_) | ((with_reducible refine ECall.mark ?_); first | refine ECall.only ?_ (fun h => nomatch h) | refine ECall.only ?_ ?_) | ((with_reducible refine Drawn.mark ?_); first | refine Drawn.quiet (by kernel_rfl) ?_) | refine dloadE_map (([] : List ByteArray)) ?_ ?_ | refine dloadE_map (emB) ?_ ?_ | refine esem_mup (kv := .string (celA t k i)) (xv := .int .i64 (IntKind.i64.wrap (getS (celA t k i) (cntI t k i) + 1))) (l := encA (cntI t k i)) (encA (cntI t k (i + 1))) rfl rfl rfl rfl (encA_ok _) (fun es clk b w he hb => mup_ok hi4 he hb) ?_ | refine dcell_ok rfl ?_ | refine AppC.new ?_))
      all_goals try ((conv => whnf); with_reducible refine Round.mark ?_)
      all_goals try first | ((with_reducible show Option.isSome (slElem _ _) = true); kernel_rfl) | ((with_reducible show slElem _ _ = some _); kernel_rfl) | ((with_reducible refine enters_mark ?_); kernel_rfl) | (with_reducible assumption) | ((with_reducible show List.all _ DV.one = true); rfl) | ((with_reducible show (_ : Nat) = _); rfl) | ((with_reducible show (_ == true) = true); simpa using h) | ((with_reducible show (_ : Nat) ≤ _); exact Nat.le_of_ble_eq_true rfl) | ((with_reducible show (_ : Int) ≤ _); first | omega | decide) | ((with_reducible show (_ : Int) < _); first | omega | decide) | ((with_reducible show (_ : Nat) < _); omega) | ((with_reducible show (_ : Nat) ≤ _); omega)
      all_goals try (first | (with_reducible exact ky_1 t k i) | (with_reducible exact ky_2 hi4) | (with_reducible exact ky_3 hi4) | (exact col_in ht hk hil; done) | (exact col_at ht hk hil; done))
      refine Round.go (· + 1) hil (by show t.rows.length - (i + 1) < t.rows.length - i; omega) (Weak.list [(7, some 9)] [] (by kernel_rfl) ?_ ?_)
      iterate 2 · repeat' (first | exact wsucc hil (by have := ht.rows; omega) | exact OW.cells rfl rfl (DWl.cons (DW.aggl (DWl.cons (DW.same _ rfl) (DWl.same (mapA_all _)))) DWl.nil) | exact DWl.eq (ky_push hz) (strV_all _) | exact DW.mo _ _ rfl | exact ky_len hz | exact DW.same _ rfl | exact DW.ref _ _ _ rfl | exact DW.arr _ _ _ rfl | exact OW.cells rfl rfl (DWl.same rfl) | refine OW.cells rfl rfl ?_ | refine DWl.cons ?_ ?_ | exact DWl.nil | exact DW.nilArr _ rfl | exact DW.nilLst _ | refine DW.clol ?_ ?_ | refine DW.aggl ?_ | refine DW.tupl ?_ | refine DW.int ?_ | refine DW.bool ?_ | refine DW.str ?_ | refine DW.arrE rfl ?_ | ((conv => whnf); first | refine And.intro ?_ ?_ | trivial))
    · repeat' (first | with_reducible rfl | ((conv => whnf); first | refine And.intro ?_ ?_ | (intro h; first | with_reducible exact tf_no h | with_reducible exact ft_no h | exact Bool.noConfusion h | with_reducible exact h | (exfalso; exact of_decide_eq_false h hlt) | (exfalso; exact z_f hz h) | (have ht : true = true := h; clear ht h) | skip) | ((with_reducible refine ex_mark ?_); first | refine dq_mlook (kv := .string (celA t k i)) (l := encA (cntI t k i)) (int1 (getS (celA t k i) (cntI t k i))) (.int .i64 (getS (celA t k i) (cntI t k i))) rfl rfl rfl (fun es clk b w he hb => look_run _ he hb) (fun w F β => .data (.v _ rfl)) ?_) | ((with_reducible refine ECall.mark ?_); first | refine ECall.only ?_ (fun h => nomatch h) | refine ECall.only ?_ ?_) | ((with_reducible refine Drawn.mark ?_); first | refine Drawn.quiet (by kernel_rfl) ?_) | refine dloadE_map (([] : List ByteArray)) ?_ ?_ | refine dloadE_map (emB) ?_ ?_ | refine esem_mup (kv := .string (celA t k i)) (xv := .int .i64 (IntKind.i64.wrap (getS (celA t k i) (cntI t k i) + 1))) (l := encA (cntI t k i)) (encA (cntI t k (i + 1))) rfl rfl rfl rfl (encA_ok _) (fun es clk b w he hb => mup_ok hi4 he hb) ?_ | refine dcell_ok rfl ?_ | refine AppC.new ?_))
      all_goals try ((conv => whnf); with_reducible refine Round.mark ?_)
      all_goals try first | ((with_reducible show Option.isSome (slElem _ _) = true); kernel_rfl) | ((with_reducible show slElem _ _ = some _); kernel_rfl) | ((with_reducible refine enters_mark ?_); kernel_rfl) | (with_reducible assumption) | ((with_reducible show List.all _ DV.one = true); rfl) | ((with_reducible show (_ : Nat) = _); rfl) | ((with_reducible show (_ == true) = true); simpa using h) | ((with_reducible show (_ : Nat) ≤ _); exact Nat.le_of_ble_eq_true rfl) | ((with_reducible show (_ : Int) ≤ _); first | omega | decide) | ((with_reducible show (_ : Int) < _); first | omega | decide) | ((with_reducible show (_ : Nat) < _); omega) | ((with_reducible show (_ : Nat) ≤ _); omega)
      all_goals try (first | (exact col_in ht hk hil; done) | (exact col_at ht hk hil; done))
      refine Round.go (· + 1) hil (by show t.rows.length - (i + 1) < t.rows.length - i; omega) (Weak.list [(7, some 7)] [] (by kernel_rfl) ?_ ?_)
      iterate 2 · repeat' (first | exact wsucc hil (by have := ht.rows; omega) | exact OW.cells rfl rfl (DWl.cons (DW.aggl (DWl.cons (DW.same _ rfl) (DWl.same (mapA_all _)))) DWl.nil) | exact DWl.eq (congrArg (List.map strV) (keys_f hz).symm) (strV_all _) | exact DW.mo _ _ rfl | exact (congrArg List.length (keys_f hz)).symm | exact DW.same _ rfl | exact DW.ref _ _ _ rfl | exact DW.arr _ _ _ rfl | exact OW.cells rfl rfl (DWl.same rfl) | refine OW.cells rfl rfl ?_ | refine DWl.cons ?_ ?_ | exact DWl.nil | exact DW.nilArr _ rfl | exact DW.nilLst _ | refine DW.clol ?_ ?_ | refine DW.aggl ?_ | refine DW.tupl ?_ | refine DW.int ?_ | refine DW.bool ?_ | refine DW.str ?_ | refine DW.arrE rfl ?_ | ((conv => whnf); first | refine And.intro ?_ ?_ | trivial))
  · have hi2 : i = t.rows.length := by omega
    have hks := keys_small ht hk hi
    have hkl := keys_len t k i
    have hsrt := sort58_S (keysI t k i) hks (Nat.le_trans hkl hi4)
    repeat' (first | with_reducible rfl | ((conv => whnf); first | refine And.intro ?_ ?_ | (intro h; first | with_reducible exact tf_no h | with_reducible exact ft_no h | exact Bool.noConfusion h | with_reducible exact h | (exfalso; exact hil (by rw [List.length_map] at h; exact lt_int h)) | (have ht : true = true := h; clear ht h) | skip) | ((with_reducible refine SCall.mark ?_); first | refine SCall.at [7] (fun _ => [(7, ⟨9, 1, (sortB (keysI t k i)).map strV⟩)]) (fun _ => .tup []) 0 hsrt (by kernel_rfl) ⟨OW.cells rfl rfl (DWl.same (strV_all _)), trivial⟩ (DWl.cons (DW.arr _ _ _ rfl) (DWl.cons (DW.clol DWl.nil DWl.nil) DWl.nil)) (DW.tupl DWl.nil) ⟨OW.cells rfl rfl (DWl.same (strV_all _)), trivial⟩ ?_) | ((with_reducible refine ECall.mark ?_); first | refine ECall.only ?_ (fun h => nomatch h) | refine ECall.only ?_ ?_) | ((with_reducible refine Drawn.mark ?_); first | refine Drawn.quiet (by kernel_rfl) ?_) | refine dloadE_map (emB) ?_ ?_ | refine dcell_ok rfl ?_ | refine AppC.new ?_))
    all_goals try first | ((with_reducible show Option.isSome (slElem _ _) = true); kernel_rfl) | ((with_reducible show slElem _ _ = some _); kernel_rfl) | ((with_reducible refine enters_mark ?_); kernel_rfl) | (with_reducible assumption) | ((with_reducible show List.all _ DV.one = true); rfl) | ((with_reducible show (_ : Nat) = _); rfl) | ((with_reducible show (_ == true) = true); simpa using h) | ((with_reducible show (_ : Nat) ≤ _); exact Nat.le_of_ble_eq_true rfl) | ((with_reducible show (_ : Int) ≤ _); first | omega | decide) | ((with_reducible show (_ : Int) < _); first | omega | decide) | ((with_reducible show (_ : Nat) < _); omega) | ((with_reducible show (_ : Nat) ≤ _); omega)
    all_goals try (exact hkh; done)
    conv => whnf
    have hcI := fun s => cnt_in t k s i
    have hsl := sortB_len (keysI t k i)
    refine Tri.loop (gqSt (sortB (keysI t k i)) (cntI t k i) (t.head.getD k emB)) (fun j => j ≤ (sortB (keysI t k i)).length) (fun j => (sortB (keysI t k i)).length - j) 0 (by kernel_rfl) (Weak.list [(0, some 1), (1, some 2), (2, some 3), (3, some 7), (4, some 9), (5, none)] [8] (by kernel_rfl) ?_ ?_) (Nat.zero_le _) ?_
    iterate 2 · repeat' (first | exact DW.nilArr _ rfl | exact DW.mo _ _ rfl | exact OW.cells rfl rfl (DWl.same (strV_all _)) | exact OW.cells rfl rfl (DWl.cons (DW.aggl (DWl.cons (DW.same _ rfl) (DWl.same (mapA_all _)))) DWl.nil) | exact DW.pubE rfl rfl (Nat.zero_lt_succ _) (List.mem_singleton.2 rfl) rfl strRow rfl | exact hsl.symm | exact congrArg (fun n : Nat => (n : Int)) hsl.symm | exact DW.same _ rfl | exact DW.ref _ _ _ rfl | exact DW.arr _ _ _ rfl | exact OW.cells rfl rfl (DWl.same rfl) | refine OW.cells rfl rfl ?_ | refine DWl.cons ?_ ?_ | exact DWl.nil | exact DW.nilArr _ rfl | exact DW.nilLst _ | refine DW.clol ?_ ?_ | refine DW.aggl ?_ | refine DW.tupl ?_ | refine DW.int ?_ | refine DW.bool ?_ | refine DW.str ?_ | refine DW.arrE rfl ?_ | ((conv => whnf); first | refine And.intro ?_ ?_ | trivial))
    generalize hKe : sortB (keysI t k i) = K at hsl
    intro j hj
    have hj : j ≤ K.length := hj
    have hj4 : j ≤ 4096 := by omega
    show dcode _ _ _ _ (gqSt K (cntI t k i) (t.head.getD k emB) j) _
    by_cases hjl : j < K.length
    · have hit := itoa60_D (getS (K.getD j emB) (cntI t k i)) (by have := hcI (K.getD j emB); omega) (by have := hcI (K.getD j emB); omega)
      repeat' (first | with_reducible rfl | ((conv => whnf); first | refine And.intro ?_ ?_ | (intro h; first | with_reducible exact tf_no h | with_reducible exact ft_no h | exact Bool.noConfusion h | with_reducible exact h | (exfalso; exact of_decide_eq_false h (Int.ofNat_lt.2 hjl)) | (have ht : true = true := h; clear ht h) | skip) | ((with_reducible refine SCall.mark ?_); first | refine SCall.data (hit) rfl rfl ?_ | refine SCall.scal (hit) rfl rfl ?_) | ((with_reducible refine PCall.mark ?_); first | refine PCall.mk (hit) rfl rfl ?_) | ((with_reducible refine GCall.mark ?_); first | refine GCall.data (fun _ => hit) rfl rfl ?_ | refine GCall.scal (fun _ => hit) rfl rfl ?_) | ((with_reducible refine MCall.mark ?_); first | refine MCall.data (fun _ => hit) rfl rfl ?_ | refine MCall.plain (PCall.mk (hit) rfl rfl ?_)) | ((with_reducible refine Tri.mark ?_); first | (refine Tri.treeX [4, 5] (MX.mv 0 0 (MX.mv 0 2 (MX.mv 0 3 (MX.mv 0 4 (MX.mv 0 5 (MX.two 1 1 (MX.mv 2 6 (MX.mv 1 7 (MX.mv 1 8 (MX.mv 1 9 (MX.mv 1 10 (MX.mv 1 11 MX.done)))))) 2 6 (MX.two 1 1 (MX.mv 1 7 (MX.mv 1 8 (MX.mv 1 9 (MX.mv 1 10 (MX.mv 1 11 MX.done))))) 1 7 (MX.two 1 1 (MX.mv 1 8 (MX.mv 1 9 (MX.mv 1 10 (MX.mv 1 11 MX.done)))) 1 8 (MX.mv 1 1 (MX.mv 1 9 (MX.mv 1 10 (MX.mv 1 11 MX.done)))))))))))) ?_ (by kernel_rfl) ?_; rfl)) | ((with_reducible refine ex_mark ?_); first | refine dq_mlook (kv := .string (K.getD j emB)) (l := encA (cntI t k i)) (int1 (getS (K.getD j emB) (cntI t k i))) (.int .i64 (getS (K.getD j emB) (cntI t k i))) rfl rfl rfl (fun es clk b w he hb => look_run _ he hb) (fun w F β => .data (.v _ rfl)) ?_) | ((with_reducible refine ECall.mark ?_); first | refine ECall.only ?_ (fun h => nomatch h) | refine ECall.only ?_ ?_) | ((with_reducible refine Drawn.mark ?_); first | (refine Drawn.tree ?_; refine Tri.treeX [4, 5] (MX.mv 0 0 (MX.mv 0 2 (MX.mv 0 3 (MX.mv 0 4 (MX.mv 0 5 (MX.two 1 1 (MX.mv 2 6 (MX.mv 1 7 (MX.mv 1 8 (MX.mv 1 9 (MX.mv 1 10 (MX.mv 1 11 MX.done)))))) 2 6 (MX.two 1 1 (MX.mv 1 7 (MX.mv 1 8 (MX.mv 1 9 (MX.mv 1 10 (MX.mv 1 11 MX.done))))) 1 7 (MX.two 1 1 (MX.mv 1 8 (MX.mv 1 9 (MX.mv 1 10 (MX.mv 1 11 MX.done)))) 1 8 (MX.mv 1 1 (MX.mv 1 9 (MX.mv 1 10 (MX.mv 1 11 MX.done)))))))))))) ?_ (by kernel_rfl) ?_; rfl) | refine Drawn.quiet (by kernel_rfl) ?_) | refine dcell_ok rfl ?_ | refine dcell_at (strV (K.getD j emB)) (fun _ => kc_get hjl) ?_ | refine dcell_ok rfl ?_ | refine AppC.new ?_))
      all_goals try ((conv => whnf); with_reducible refine Round.mark ?_)
      all_goals try first | ((with_reducible show Option.isSome (slElem _ _) = true); kernel_rfl) | ((with_reducible show slElem _ _ = some _); kernel_rfl) | ((with_reducible refine enters_mark ?_); kernel_rfl) | (with_reducible assumption) | ((with_reducible show List.all _ DV.one = true); rfl) | ((with_reducible show (_ : Nat) = _); rfl) | ((with_reducible show (_ == true) = true); simpa using h) | ((with_reducible show (_ : Nat) ≤ _); exact Nat.le_of_ble_eq_true rfl) | ((with_reducible show (_ : Int) ≤ _); first | omega | decide) | ((with_reducible show (_ : Int) < _); first | omega | decide) | ((with_reducible show (_ : Nat) < _); omega) | ((with_reducible show (_ : Nat) ≤ _); omega)
      all_goals try (first | ((with_reducible show Option.all _ _ = true); rfl) | (exact gr_1 hj; done) | (with_reducible exact gr_2 hj4) | (with_reducible exact gr_3 hj4))
      · refine Round.go (fun _ => j + 1) hjl (by show K.length - (j + 1) < K.length - j; omega) (Weak.list [(0, some 0), (1, some 1), (2, some 2), (3, some 3), (4, some 4), (5, some 8)] [6] (by kernel_rfl) ?_ ?_)
        iterate 2 · repeat' (first | exact wsucc hjl (by omega) | exact OW.cells rfl rfl (DWl.cons (DW.aggl (DWl.cons (DW.same _ rfl) (DWl.same (mapA_all _)))) DWl.nil) | exact OW.cells rfl rfl (DWl.same (strV_all _)) | exact DW.mo _ _ rfl | exact DWl.snocE (gr_push hjl) (take_all (rowsC_all _) _) (DW.pubE rfl rfl (Nat.zero_lt_succ _) (List.mem_singleton.2 rfl) rfl strRow rfl) | exact DW.same _ rfl | exact DW.ref _ _ _ rfl | exact DW.arr _ _ _ rfl | exact OW.cells rfl rfl (DWl.same rfl) | refine OW.cells rfl rfl ?_ | refine DWl.cons ?_ ?_ | exact DWl.nil | exact DW.nilArr _ rfl | exact DW.nilLst _ | refine DW.clol ?_ ?_ | refine DW.aggl ?_ | refine DW.tupl ?_ | refine DW.int ?_ | refine DW.bool ?_ | refine DW.str ?_ | refine DW.arrE rfl ?_ | ((conv => whnf); first | refine And.intro ?_ ?_ | trivial))
      · refine Round.go (fun _ => j + 1) hjl (by show K.length - (j + 1) < K.length - j; omega) (Weak.list [(0, some 0), (1, some 1), (2, some 2), (3, some 3), (4, some 4), (5, some 8)] [6] (by kernel_rfl) ?_ ?_)
        iterate 2 · repeat' (first | exact wsucc hjl (by omega) | exact OW.cells rfl rfl (DWl.cons (DW.aggl (DWl.cons (DW.same _ rfl) (DWl.same (mapA_all _)))) DWl.nil) | exact OW.cells rfl rfl (DWl.same (strV_all _)) | exact DW.mo _ _ rfl | exact DWl.snocE (gr_push hjl) (take_all (rowsC_all _) _) (DW.pubE rfl rfl (Nat.zero_lt_succ _) (List.mem_singleton.2 rfl) rfl strRow rfl) | exact DW.same _ rfl | exact DW.ref _ _ _ rfl | exact DW.arr _ _ _ rfl | exact OW.cells rfl rfl (DWl.same rfl) | refine OW.cells rfl rfl ?_ | refine DWl.cons ?_ ?_ | exact DWl.nil | exact DW.nilArr _ rfl | exact DW.nilLst _ | refine DW.clol ?_ ?_ | refine DW.aggl ?_ | refine DW.tupl ?_ | refine DW.int ?_ | refine DW.bool ?_ | refine DW.str ?_ | refine DW.arrE rfl ?_ | ((conv => whnf); first | refine And.intro ?_ ?_ | trivial))
      · refine Round.go (fun _ => j + 1) hjl (by show K.length - (j + 1) < K.length - j; omega) (Weak.list [(0, some 0), (1, some 1), (2, some 2), (3, some 3), (4, some 4), (5, some 8)] [6] (by kernel_rfl) ?_ ?_)
        iterate 2 · repeat' (first | exact wsucc hjl (by omega) | exact OW.cells rfl rfl (DWl.cons (DW.aggl (DWl.cons (DW.same _ rfl) (DWl.same (mapA_all _)))) DWl.nil) | exact OW.cells rfl rfl (DWl.same (strV_all _)) | exact DW.mo _ _ rfl | exact DWl.snocE (gr_push hjl) (take_all (rowsC_all _) _) (DW.pubE rfl rfl (Nat.zero_lt_succ _) (List.mem_singleton.2 rfl) rfl strRow rfl) | exact DW.same _ rfl | exact DW.ref _ _ _ rfl | exact DW.arr _ _ _ rfl | exact OW.cells rfl rfl (DWl.same rfl) | refine OW.cells rfl rfl ?_ | refine DWl.cons ?_ ?_ | exact DWl.nil | exact DW.nilArr _ rfl | exact DW.nilLst _ | refine DW.clol ?_ ?_ | refine DW.aggl ?_ | refine DW.tupl ?_ | refine DW.int ?_ | refine DW.bool ?_ | refine DW.str ?_ | refine DW.arrE rfl ?_ | ((conv => whnf); first | refine And.intro ?_ ?_ | trivial))
      · refine Round.go (fun _ => j + 1) hjl (by show K.length - (j + 1) < K.length - j; omega) (Weak.list [(0, some 0), (1, some 1), (2, some 2), (3, some 3), (4, some 4), (5, some 8)] [6] (by kernel_rfl) ?_ ?_)
        iterate 2 · repeat' (first | exact wsucc hjl (by omega) | exact OW.cells rfl rfl (DWl.cons (DW.aggl (DWl.cons (DW.same _ rfl) (DWl.same (mapA_all _)))) DWl.nil) | exact OW.cells rfl rfl (DWl.same (strV_all _)) | exact DW.mo _ _ rfl | exact DWl.snocE (gr_push hjl) (take_all (rowsC_all _) _) (DW.pubE rfl rfl (Nat.zero_lt_succ _) (List.mem_singleton.2 rfl) rfl strRow rfl) | exact DW.same _ rfl | exact DW.ref _ _ _ rfl | exact DW.arr _ _ _ rfl | exact OW.cells rfl rfl (DWl.same rfl) | refine OW.cells rfl rfl ?_ | refine DWl.cons ?_ ?_ | exact DWl.nil | exact DW.nilArr _ rfl | exact DW.nilLst _ | refine DW.clol ?_ ?_ | refine DW.aggl ?_ | refine DW.tupl ?_ | refine DW.int ?_ | refine DW.bool ?_ | refine DW.str ?_ | refine DW.arrE rfl ?_ | ((conv => whnf); first | refine And.intro ?_ ?_ | trivial))
    · have hj2 : j = K.length := by omega
      subst hj2
      have hR : groupT t k = ⟨[t.head.getD k emB, cntB], grRow K (cntI t k i) K.length⟩ := by
        unfold groupT grRow; rw [← hi2, hKe, List.take_length]
      repeat' (first | with_reducible rfl | ((conv => whnf); first | refine And.intro ?_ ?_ | (intro h; first | with_reducible exact tf_no h | with_reducible exact ft_no h | exact Bool.noConfusion h | with_reducible exact h | (exfalso; exact hjl (lt_int h)) | (have ht : true = true := h; clear ht h) | skip) | ((with_reducible refine ECall.mark ?_); first | refine ECall.only ?_ (fun h => nomatch h) | refine ECall.only ?_ ?_) | ((with_reducible refine Drawn.mark ?_); first | refine Drawn.quiet (by kernel_rfl) ?_) | refine dcell_ok rfl ?_ | refine AppC.new ?_))
      all_goals try first | ((with_reducible show Option.isSome (slElem _ _) = true); kernel_rfl) | ((with_reducible show slElem _ _ = some _); kernel_rfl) | ((with_reducible refine enters_mark ?_); kernel_rfl) | (with_reducible assumption) | ((with_reducible show List.all _ DV.one = true); rfl) | ((with_reducible show (_ : Nat) = _); rfl) | ((with_reducible show (_ == true) = true); simpa using h) | ((with_reducible show (_ : Nat) ≤ _); exact Nat.le_of_ble_eq_true rfl) | ((with_reducible show (_ : Int) ≤ _); first | omega | decide) | ((with_reducible show (_ : Int) < _); first | omega | decide) | ((with_reducible show (_ : Nat) < _); omega) | ((with_reducible show (_ : Nat) ≤ _); omega)
      conv => whnf
      exact Tells.of (congrArg (fun x => DV.tup [tab x, int1 0]) hR) (Tells.mk (DW.tupl (DWl.cons (DW.aggl (DWl.cons (DW.same _ rfl) (DWl.cons (DW.pubM (l := grRow K (cntI t k i) K.length) (f := rowD) rfl (gr_len (Nat.le_refl _)) rfl rfl rowRow (rowsC_eq _)) DWl.nil))) (DWl.cons (DW.same _ rfl) DWl.nil))))
theorem grp_bad {t : Tb} {by_ : Int} (h : by_ < 0 ∨ (t.head.length : Int) ≤ by_) : (bif decide (by_ < 0) then true else decide ((((t.head.map strD).length : Nat) : Int) ≤ by_)) = true := by rw [List.length_map]; exact pg_bad h
set_option maxRecDepth 20000 in
theorem group23_bad (t : Tb) (by_ : Int) (h1 : by_ < 0 ∨ (t.head.length : Int) ≤ by_) : DPure Tryz.prog 23 [tab t, int1 by_] (.tup [tab ⟨[], []⟩, int1 31]) := by
  have t1 := grp_bad (t := t) h1
  refine DFun.data (DFun.body Tryz.func23 rfl (by kernel_rfl) ?_)
  repeat' (first | with_reducible rfl | ((conv => whnf); first | refine And.intro ?_ ?_ | (intro h; first | with_reducible exact tf_no h | with_reducible exact ft_no h | exact Bool.noConfusion h | with_reducible exact h | (exfalso; exact bt_x t1 h) | (have ht : true = true := h; clear ht h) | skip) | ((with_reducible refine ECall.mark ?_); first | refine ECall.only ?_ (fun h => nomatch h) | refine ECall.only ?_ ?_) | ((with_reducible refine Drawn.mark ?_); first | refine Drawn.quiet (by kernel_rfl) ?_) | refine dcell_ok rfl ?_ | refine AppC.new ?_))
  all_goals try first | ((with_reducible show Option.isSome (slElem _ _) = true); kernel_rfl) | ((with_reducible show slElem _ _ = some _); kernel_rfl) | ((with_reducible refine enters_mark ?_); kernel_rfl) | (with_reducible assumption) | ((with_reducible show List.all _ DV.one = true); rfl) | ((with_reducible show (_ : Nat) = _); rfl) | ((with_reducible show (_ == true) = true); simpa using h) | ((with_reducible show (_ : Nat) ≤ _); exact Nat.le_of_ble_eq_true rfl) | ((with_reducible show (_ : Int) ≤ _); first | omega | decide) | ((with_reducible show (_ : Int) < _); first | omega | decide) | ((with_reducible show (_ : Nat) < _); omega) | ((with_reducible show (_ : Nat) ≤ _); omega)
  all_goals try (first | (with_reducible exact tnb h))
  conv => whnf
  exact Tells.mk (DW.tupl (DWl.cons (DW.aggl (DWl.cons (DW.nilLst _) (DWl.cons (DW.nilLst _) DWl.nil))) (DWl.cons (DW.same _ rfl) DWl.nil)))
end Go.Proofs.YtlchjjchgebfiaaGreatDoor


