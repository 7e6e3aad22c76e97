/- Eight leaves sorted by the library. -/
import Derived.Test.YtagfmppjlfhmeaaGreatDoorPkH
import Derived.Test.YtagfmppjlfhmeaaGreatDoorPkE
import Derived.Test.YtagfmppjlfhmeaaGreatDoorDp32
import Derived.Shelf.SlSortCmp.NoneTotal
import Derived.Test.YtagfmppjlfhmeaaGreatDoorDp38
import Derived.Test.YtagfmppjlfhmeaaGreatDoorPkD

namespace Go.Proofs.YtagfmppjlfhmeaaGreatDoor
open Go.RowKit Go.Dl Go.Shelf Go.Sort
def cmpI (a b : ByteArray) : Int := Lib.compareBytes a.data.toList b.data.toList
theorem comp63_D (a b : ByteArray) : DPure Tryz.prog 63 [strV a, strV b] (int1 (cmpI a b)) :=
  DPure.kit (args := [.string a, .string b]) fun w _ => (Any.strings_Compare Tryz.laysCompare a b w).mono fun e w' ⟨he, hw⟩ => ⟨_, he, by subst hw; exact Below.refl _ _, fun F hF => .data (.v _ rfl)⟩
section
attribute [local irreducible] Tri SCall TSem ECall Drawn DFun QSem PSem PCall GCall MCall Round Weak dloadE OW DWl Tells Retold ESem
set_option maxRecDepth 20000 in
theorem cmp62_D (x y : Lf) : DPure Tryz.prog 62 [.agg (lfD x), .agg (lfD y)] (int1 (cmpI x.p y.p)) := by
  refine DFun.data (DFun.body Tryz.func62 rfl (by kernel_rfl) ?_)
  repeat' (first | with_reducible rfl | ((conv => whnf); first | refine And.intro ?_ ?_ | (intro h; first | with_reducible exact tf_no h | with_reducible exact ft_no h | exact Bool.noConfusion h | with_reducible exact h | (have ht : true = true := h; clear ht h) | skip) | ((with_reducible refine SCall.mark ?_); first | refine SCall.data (comp63_D _ _) rfl rfl ?_ | refine SCall.scal (comp63_D _ _) rfl rfl ?_) | ((with_reducible refine PCall.mark ?_); first | refine PCall.mk (comp63_D _ _) rfl rfl ?_) | ((with_reducible refine GCall.mark ?_); first | refine GCall.data (fun _ => comp63_D _ _) rfl rfl ?_ | refine GCall.scal (fun _ => comp63_D _ _) rfl rfl ?_) | ((with_reducible refine MCall.mark ?_); first | refine MCall.data (fun _ => comp63_D _ _) rfl rfl ?_ | refine MCall.plain (PCall.mk (comp63_D _ _) rfl rfl ?_)) | ((with_reducible refine ECall.mark ?_); first | refine ECall.only ?_ (fun h => nomatch h) | refine ECall.only ?_ ?_) | ((with_reducible refine Drawn.mark ?_); first | refine Drawn.quiet (by kernel_rfl) ?_) | refine dcell_ok rfl ?_ | refine AppC.new ?_))
  all_goals try first | ((with_reducible show Option.isSome (slElem _ _) = true); kernel_rfl) | ((with_reducible show slElem _ _ = some _); kernel_rfl) | ((with_reducible refine enters_mark ?_); kernel_rfl) | (with_reducible assumption) | ((with_reducible show List.all _ DV.one = true); rfl) | ((with_reducible show (_ : Nat) = _); rfl) | ((with_reducible show (_ == true) = true); first | (simp; done) | simpa using h) | ((with_reducible show (_ : Nat) ≤ _); exact Nat.le_of_ble_eq_true rfl) | ((with_reducible show (_ : Int) ≤ _); first | omega | decide) | ((with_reducible show (_ : Int) < _); first | omega | decide) | ((with_reducible show (_ : Nat) < _); omega) | ((with_reducible show (_ : Nat) ≤ _); omega)
  all_goals (conv => whnf)
  all_goals exact Tells.mk (DW.same _ rfl)
end
def encL (f : Fin 8 → Lf) (i : Fin 8) : List Value := [.string (f i).p, .string (f i).v]
def cfL (f : Fin 8 → Lf) (i j : Fin 8) : Int := cmpI (f i).p (f j).p
theorem pw_lf {w : World} {F : Nat → Prop} {β : Beta} (x : Lf) : RV w F β (.agg (lfD x)) (.agg [Value.string x.p, Value.string x.v].toArray) := by
  refine .agg _ _ rfl fun i d v h1 h2 => ?_
  match i with
  | 0 => simp [lfD] at h1 h2; subst h1 h2; exact .data (.v _ rfl)
  | 1 => simp [lfD] at h1 h2; subst h1 h2; exact .data (.v _ rfl)
  | i + 2 => simp [lfD] at h1
theorem cmpL_lays (f : Fin 8 → Lf) (blk size : Nat) (w : World) (hg : ∀ W, BelowD blk w W → Gok W) (hb : blk < w.heap.size) : CmpLays Tryz.prog 62 #[] (encL f) 2 (cfL f) blk 0 size w := by
  intro m os dk hs x y
  have hW : Gok (sortWorldK (encL f) 2 w blk 0 m dk os) := by
    refine hg _ ⟨rfl, rfl, rfl, ?_, fun k hk => ?_, fun _ => Nat.le_add_right _ _⟩
    · show w.heap.size ≤ ((w.heap.modify blk _) ++ os).size
      simp
    · show ((w.heap.modify blk _) ++ os)[k]? = _
      rw [Array.getElem?_append_left (by simp; omega), Array.getElem?_modify, if_neg (by omega)]
  have h := cmp62_D (f x) (f y) (sortWorldK (encL f) 2 w blk 0 m dk os) (fun _ => True) [.agg (encL f x).toArray, .agg (encL f y).toArray] hW (fun _ _ => trivial) (Pw.cons (pw_lf _) (Pw.cons (pw_lf _) Pw.nil))
  refine (Calls.drew h).mono fun e w' ⟨⟨v, r, s', β', he, hr, hS, hv⟩, hd⟩ => ?_
  subst hr
  have hv := rv_v hv
  subst hv
  subst he
  exact ⟨rfl, Mono.below_grown hS.below.kit (hd (fun c => by cases c))⟩
def idx8 : List (Fin 8) := [0, 1, 2, 3, 4, 5, 6, 7]
def srt8 (f : Fin 8 → Lf) : List Lf := (idx8.mergeSort fun x y => !(ltOf (cfL f)) y x).map f
theorem srt8_len (f : Fin 8 → Lf) : (srt8 f).length = 8 := by unfold srt8; rw [List.length_map, List.length_mergeSort]; rfl
theorem rowI (f : Fin 8 → Lf) (l : List (Fin 8)) : Go.Dl.rowD (encL f) l = rowL (l.map f) := by
  induction l with
  | nil => rfl
  | cons x l ih => simp only [Go.Dl.rowD, List.map_cons, List.flatten_cons] at *; rw [ih]; rfl
theorem of_upd {o o' : DObj} : (⟨upd (Sto.of [(0, o)] 1).ob 0 (some o'), (Sto.of [(0, o)] 1).nx⟩ : Sto) = .of [(0, o')] 1 := by
  show Sto.mk _ 1 = Sto.mk _ 1
  congr 1
  funext i
  by_cases h : i = 0
  · subst h; rfl
  · rw [upd_ne _ _ _ h]
    show List.lookup i [(0, o)] = List.lookup i [(0, o')]
    simp [List.lookup, beq_eq_false_iff_ne.2 h]
set_option maxRecDepth 20000 in
theorem Tryz.isAgg35 : ∀ w, (isAgg 35).run Tryz.prog w = .ok true w := fun _ => rfl
set_option maxRecDepth 20000 in
theorem Tryz.sizeOf35 : ∀ w, (Go.sizeOf 35).run Tryz.prog w = .ok 2 w := fun _ => rfl
theorem sort61_S (f : Fin 8 → Lf) (hO : SWO (ltOf (cfL f))) (hT : ∀ x y, (ltOf (cfL f)) x y = false → (ltOf (cfL f)) y x = false → x = y) :
    SCall Tryz.prog 61 [.arr 0 8, .clo (.func 62) [] []] (.of [(0, ⟨35, 2, rowL (idx8.map f)⟩)] 1) fun r' s' => r' = .tup [] ∧ s' = .of [(0, ⟨35, 2, rowL (srt8 f)⟩)] 1 := by
  refine SCall.sortedG (enc := encL f) (k := 2) (l := idx8) (l' := idx8.mergeSort fun x y => !(ltOf (cfL f)) y x) (fun _ => rfl) (by decide) (fun x v hv => ?_) (o := ⟨35, 2, rowL (idx8.map f)⟩) rfl rfl (rowI f idx8).symm rfl (by decide) (List.length_mergeSort idx8) (fun blk cap w hH hblk hg => ?_) ?_
  · simp [encL] at hv; rcases hv with rfl | rfl <;> rfl
  · have eg : ∀ args w, (callFunc 62 args).run Tryz.prog w = .ok (.enter 62 args) w := enters_of Tryz.func62 (by kernel_rfl) rfl
    exact AnyQ.slices_SortFunc_total Tryz.sortLeaves 2 Tryz.isAgg35 Tryz.sizeOf35 (encL f) (fun _ => rfl) (fun x v hv => by simp [encL] at hv; rcases hv with rfl | rfl <;> rfl) (cfL f) hO 62 #[] blk 0 cap idx8.toArray w eg (cmpL_lays f blk _ w hg hblk) hH hblk (by decide) hT
  · exact ⟨rfl, by rw [rowI]; exact of_upd⟩
end Go.Proofs.YtagfmppjlfhmeaaGreatDoor

namespace Go.Proofs.YtagfmppjlfhmeaaGreatDoor
open Go.RowKit Go.Dl
attribute [local irreducible] Tri SCall TSem ECall Drawn DFun QSem PSem PCall GCall MCall Round Weak dloadE OW DWl Tells Retold ESem ESemW
theorem ps_row (ps : List ByteArray) : ∀ r ∈ ps.map strD, r.length = 1 ∧ r.all isData1 = true := by
  intro r hr
  obtain ⟨c, _, rfl⟩ := List.mem_map.1 hr
  exact ⟨rfl, rfl⟩
theorem ps_flat (ps : List ByteArray) : ps.map strV = (ps.map strD).flatten := by
  induction ps with
  | nil => rfl
  | cons a l ih => rw [List.map_cons, List.map_cons, List.flatten_cons, ← ih]; rfl
set_option maxRecDepth 20000 in
theorem tl_b1 (o : List Lf) : o.length * Tryz.prog.types[35].size ≤ (rowL o).length := by
  show _ * 2 ≤ _
  rw [rowL_len]; exact Nat.le_refl _
set_option maxRecDepth 20000 in
theorem tl_b2 {o : List Lf} (h : o.length ≤ 100) : (o.length + 1) * Tryz.prog.types[35].bytes ≤ 140737488355328 := by
  show _ * 32 ≤ _
  omega
theorem tl_b3 {o : List Lf} (h : o.length ≤ 100) : o.length + 1 ≤ maxLen := by simp only [maxLen]; omega
def toS (o : List Lf) (n : Nat) (ps : List ByteArray) : Sto := .of [(0, ⟨22, 1, [.arr 1 n]⟩), (1, ⟨35, 2, rowL o⟩), (2, ⟨9, 1, ps.map strV⟩)] 3
set_option maxRecDepth 20000 in
set_option maxHeartbeats 1000000 in
theorem to55_S (o : List Lf) (n : Nat) (hn : o.length = n) (v : ByteArray) (ps : List ByteArray) (h1 : n ≤ 100) (hj : DPure Tryz.prog 56 [strs ps, strV spaceB] (strV (joinB spaceB ps))) :
    SCall Tryz.prog 55 [strV v, .arr 2 ps.length, .ref 0 0] (toS o n ps) fun r s => r = .tup [] ∧ s = .of [(0, ⟨22, 1, [.arr 3 (n + 1)]⟩), (3, ⟨35, 2, rowL (o ++ [⟨joinB spaceB ps, v⟩])⟩)] 4 := by
  subst hn
  refine SCall.retell (SCall.run Tryz.func55 rfl (Nat.le_of_ble_eq_true rfl) (by kernel_rfl) ?_)
  repeat' (first | with_reducible rfl | ((conv => whnf); first | refine And.intro ?_ ?_ | (intro h; first | with_reducible exact tf_no h | with_reducible exact ft_no h | exact Bool.noConfusion h | with_reducible exact h | (have ht : true = true := h; clear ht h) | skip) | ((with_reducible refine DWl.mark ?_); repeat' (first | refine DWl.cons ?_ ?_ | exact DWl.nil | exact DW.same _ rfl | exact DW.ref _ _ _ rfl | exact DW.arr _ _ _ rfl | exact DW.sub _ _ _ _ rfl | exact DW.mo _ _ rfl | exact DW.nilLst _ | refine DW.aggl ?_ | refine DW.tupl ?_ | refine DW.clol ?_ ?_ | refine DW.int ?_ | refine DW.bool ?_ | refine DW.str ?_)) | ((with_reducible refine SCall.mark ?_); first | refine SCall.scalT hj (DWl.cons (DW.pubE rfl rfl (Nat.zero_lt_succ _) trivial (List.length_map _) (ps_row ps) (ps_flat ps)) (DWl.cons (DW.same _ rfl) DWl.nil)) rfl ?_) | ((with_reducible refine Tri.mark ?_); first | (refine Tri.treeX [0, 1, 2] (MX.mv 0 1 (MX.mv 0 3 (MX.two 1 0 (MX.mv 2 2 (MX.mv 0 4 (MX.mv 1 5 (MX.mv 1 6 (MX.mv 1 7 MX.done))))) 2 2 (MX.mv 0 4 (MX.two 1 0 (MX.mv 1 5 (MX.mv 1 6 (MX.mv 1 7 MX.done))) 1 5 (MX.mv 1 0 (MX.mv 1 6 (MX.mv 1 7 MX.done)))))))) ?_ (by kernel_rfl) ?_; rfl)) | ((with_reducible refine ECall.mark ?_); first | refine ECall.only ?_ (fun h => nomatch h) | refine ECall.only ?_ ?_) | ((with_reducible refine Drawn.mark ?_); first | (refine Drawn.tree ?_; refine Tri.treeX [0, 1, 2] (MX.mv 0 1 (MX.mv 0 3 (MX.two 1 0 (MX.mv 2 2 (MX.mv 0 4 (MX.mv 1 5 (MX.mv 1 6 (MX.mv 1 7 MX.done))))) 2 2 (MX.mv 0 4 (MX.two 1 0 (MX.mv 1 5 (MX.mv 1 6 (MX.mv 1 7 MX.done))) 1 5 (MX.mv 1 0 (MX.mv 1 6 (MX.mv 1 7 MX.done)))))))) ?_ (by kernel_rfl) ?_; rfl) | refine Drawn.quiet (by kernel_rfl) ?_) | refine dcell_ok rfl ?_ | refine AppC.new ?_))
  all_goals try first | ((with_reducible show Option.isSome (slElem _ _) = true); kernel_rfl) | ((with_reducible show slElem _ _ = some _); kernel_rfl) | ((with_reducible refine enters_mark ?_); kernel_rfl) | (with_reducible assumption) | ((with_reducible show List.all _ DV.one = true); rfl) | ((with_reducible show (_ : Nat) = _); rfl) | ((with_reducible show (_ == true) = true); first | (simp; done) | simpa using h) | ((with_reducible show (_ : Nat) ≤ _); exact Nat.le_of_ble_eq_true rfl) | ((with_reducible show (_ : Int) ≤ _); first | omega | decide) | ((with_reducible show (_ : Int) < _); first | omega | decide) | ((with_reducible show (_ : Nat) < _); omega) | ((with_reducible show (_ : Nat) ≤ _); omega)
  all_goals try first | ((with_reducible show Option.all _ _ = true); rfl) | exact tl_b1 o | exact tl_b2 h1 | exact tl_b3 h1
  all_goals (conv => whnf)
  all_goals refine Retold.list [(3, some 4)] [] (.tup []) [(0, ⟨22, 1, [.arr 3 (o.length + 1)]⟩), (3, ⟨35, 2, rowL (o ++ [⟨joinB spaceB ps, v⟩])⟩)] 4 (by kernel_rfl) (DW.tupl DWl.nil) ⟨OW.cells rfl rfl (DWl.cons (DW.arr _ _ _ rfl) DWl.nil), OW.cells rfl rfl (DWl.eq (Eq.trans ?_ (rowL_push o ⟨joinB spaceB ps, v⟩)) (rowL_all _)), trivial⟩ ⟨rfl, rfl⟩
  all_goals kernel_rfl
def to0S (ps : List ByteArray) : Sto := .of [(0, ⟨22, 1, [.v (.slice none 0 0)]⟩), (1, ⟨9, 1, ps.map strV⟩)] 2
set_option maxRecDepth 20000 in
set_option maxHeartbeats 1000000 in
theorem to55_0 (v : ByteArray) (ps : List ByteArray) (hj : DPure Tryz.prog 56 [strs ps, strV spaceB] (strV (joinB spaceB ps))) :
    SCall Tryz.prog 55 [strV v, .arr 1 ps.length, .ref 0 0] (to0S ps) fun r s => r = .tup [] ∧ s = .of [(0, ⟨22, 1, [.arr 2 1]⟩), (2, ⟨35, 2, rowL [⟨joinB spaceB ps, v⟩]⟩)] 3 := by
  refine SCall.retell (SCall.run Tryz.func55 rfl (Nat.le_of_ble_eq_true rfl) (by kernel_rfl) ?_)
  repeat' (first | with_reducible rfl | ((conv => whnf); first | refine And.intro ?_ ?_ | (intro h; first | with_reducible exact tf_no h | with_reducible exact ft_no h | exact Bool.noConfusion h | with_reducible exact h | (have ht : true = true := h; clear ht h) | skip) | ((with_reducible refine DWl.mark ?_); repeat' (first | refine DWl.cons ?_ ?_ | exact DWl.nil | exact DW.same _ rfl | exact DW.ref _ _ _ rfl | exact DW.arr _ _ _ rfl | exact DW.sub _ _ _ _ rfl | exact DW.mo _ _ rfl | exact DW.nilLst _ | refine DW.aggl ?_ | refine DW.tupl ?_ | refine DW.clol ?_ ?_ | refine DW.int ?_ | refine DW.bool ?_ | refine DW.str ?_)) | ((with_reducible refine SCall.mark ?_); first | refine SCall.scalT hj (DWl.cons (DW.pubE rfl rfl (Nat.zero_lt_succ _) trivial (List.length_map _) (ps_row ps) (ps_flat ps)) (DWl.cons (DW.same _ rfl) DWl.nil)) rfl ?_) | ((with_reducible refine Tri.mark ?_); first | (refine Tri.treeX [0, 1] (MX.mv 0 1 (MX.mv 0 3 (MX.two 1 0 (MX.mv 2 2 (MX.mv 0 4 (MX.mv 1 5 (MX.mv 1 6 (MX.mv 1 7 MX.done))))) 2 2 (MX.mv 0 4 (MX.two 1 0 (MX.mv 1 5 (MX.mv 1 6 (MX.mv 1 7 MX.done))) 1 5 (MX.mv 1 0 (MX.mv 1 6 (MX.mv 1 7 MX.done)))))))) ?_ (by kernel_rfl) ?_; rfl)) | ((with_reducible refine ECall.mark ?_); first | refine ECall.only ?_ (fun h => nomatch h) | refine ECall.only ?_ ?_) | ((with_reducible refine Drawn.mark ?_); first | (refine Drawn.tree ?_; refine Tri.treeX [0, 1] (MX.mv 0 1 (MX.mv 0 3 (MX.two 1 0 (MX.mv 2 2 (MX.mv 0 4 (MX.mv 1 5 (MX.mv 1 6 (MX.mv 1 7 MX.done))))) 2 2 (MX.mv 0 4 (MX.two 1 0 (MX.mv 1 5 (MX.mv 1 6 (MX.mv 1 7 MX.done))) 1 5 (MX.mv 1 0 (MX.mv 1 6 (MX.mv 1 7 MX.done)))))))) ?_ (by kernel_rfl) ?_; rfl) | refine Drawn.quiet (by kernel_rfl) ?_) | refine dcell_ok rfl ?_ | refine AppC.new ?_))
  all_goals try first | ((with_reducible show Option.isSome (slElem _ _) = true); kernel_rfl) | ((with_reducible show slElem _ _ = some _); kernel_rfl) | ((with_reducible refine enters_mark ?_); kernel_rfl) | (with_reducible assumption) | ((with_reducible show List.all _ DV.one = true); rfl) | ((with_reducible show (_ : Nat) = _); rfl) | ((with_reducible show (_ == true) = true); first | (simp; done) | simpa using h) | ((with_reducible show (_ : Nat) ≤ _); exact Nat.le_of_ble_eq_true rfl) | ((with_reducible show (_ : Int) ≤ _); first | omega | decide) | ((with_reducible show (_ : Int) < _); first | omega | decide) | ((with_reducible show (_ : Nat) < _); omega) | ((with_reducible show (_ : Nat) ≤ _); omega)
  all_goals try first | ((with_reducible show Option.all _ _ = true); rfl)
  all_goals (conv => whnf)
  all_goals refine Retold.list [(2, some 3)] [] (.tup []) [(0, ⟨22, 1, [.arr 2 1]⟩), (2, ⟨35, 2, rowL [⟨joinB spaceB ps, v⟩]⟩)] 3 (by kernel_rfl) (DW.tupl DWl.nil) ⟨OW.cells rfl rfl (DWl.cons (DW.arr _ _ _ rfl) DWl.nil), OW.cells rfl rfl (DWl.eq ?_ (rowL_all _)), trivial⟩ ⟨rfl, rfl⟩
  all_goals kernel_rfl
end Go.Proofs.YtagfmppjlfhmeaaGreatDoor
namespace Go.Proofs.YtagfmppjlfhmeaaGreatDoor
open Go.RowKit Go.Dl
attribute [local irreducible] Tri SCall TSem ECall Drawn DFun QSem PSem PCall GCall MCall Round Weak dloadE OW DWl Tells Retold ESem ESemW
theorem i1_row (k : Int) : ∀ r ∈ [[int1 k]], r.length = 1 ∧ r.all isData1 = true := by
  intro r hr
  rw [List.mem_singleton.1 hr]; exact ⟨rfl, rfl⟩
def zB : ByteArray := ⟨#[48]⟩
def oB : ByteArray := ⟨#[49]⟩
def bootB : ByteArray := ⟨#[98, 111, 111, 116]⟩
def ticksB : ByteArray := ⟨#[116, 105, 99, 107, 115]⟩
def turnB : ByteArray := ⟨#[116, 117, 114, 110]⟩
set_option maxRecDepth 20000 in
theorem join_D (ps : List ByteArray) (h : (Nat.ble 1 ps.length && Nat.ble (joinB spaceB ps).size 140737488355328 && Nat.ble ps.length 140737488355328) = true) : DPure Tryz.prog 56 [strs ps, strV spaceB] (strV (joinB spaceB ps)) := by
  simp only [Bool.and_eq_true] at h
  exact join56_D ps spaceB (Nat.le_of_ble_eq_true h.1.1) (Nat.le_of_ble_eq_true h.1.2) (Nat.le_of_ble_eq_true h.2)
def lfB : Lf := ⟨joinB spaceB [zB, bootB], oB⟩
def lfT : Lf := ⟨joinB spaceB [zB, ticksB], zB⟩
def lfU : Lf := ⟨joinB spaceB [zB, turnB], zB⟩
def nd0 : List DV := [int1 0, int1 1, int1 0, nilV, int1 0, nilV, nilV, nilV]
def ndS (o : List Lf) : Sto := .of [(0, ⟨22, 1, [.arr 1 o.length]⟩), (1, ⟨35, 2, rowL o⟩)] 2
theorem len_1 (o : List Lf) (x : Lf) : (o ++ [x]).length = o.length + 1 := by simp
theorem len_2 (o : List Lf) (x y : Lf) : (o ++ [x] ++ [y]).length = o.length + 1 + 1 := by simp
theorem ow_box {ρ : Nat → Option Nat} {s : Sto} {pub : Nat → Prop} {a b n : Nat} (h : ρ b = some a) : OW ρ s pub ⟨22, 1, [.arr a n]⟩ ⟨22, 1, [.arr b n]⟩ := OW.cells rfl rfl (DWl.cons (DW.arr _ _ _ h) DWl.nil)
theorem ow_rows {ρ : Nat → Option Nat} {s : Sto} {pub : Nat → Prop} (o : List Lf) : OW ρ s pub ⟨35, 2, rowL o⟩ ⟨35, 2, rowL o⟩ := OW.cells rfl rfl (DWl.same (rowL_all _))
theorem ow_path {ρ : Nat → Option Nat} {s : Sto} {pub : Nat → Prop} (ps : List ByteArray) (h : (ps.map strV).all noId1 = true) : OW ρ s pub ⟨9, 1, ps.map strV⟩ ⟨9, 1, ps.map strV⟩ := OW.cells rfl rfl (DWl.same h)
attribute [local irreducible] joinB
set_option maxRecDepth 20000 in
set_option maxHeartbeats 1000000 in
theorem node60_S (o : List Lf) (h : o.length ≤ 50) : SCall Tryz.prog 60 [.clo (.func 55) [] [.ref 0 0], .agg nd0] (ndS o) fun r s => r = .tup [] ∧ s = .of [(0, ⟨22, 1, [.arr 2 (o.length + 1 + 1 + 1)]⟩), (2, ⟨35, 2, rowL (o ++ [lfB] ++ [lfT] ++ [lfU])⟩)] 3 := by
  have j1 := to55_S o o.length rfl oB [zB, bootB] (by omega) (join_D _ (by kernel_rfl))
  have j2 := to55_S (o ++ [lfB]) (o.length + 1) (len_1 _ _) zB [zB, ticksB] (by omega) (join_D _ (by kernel_rfl))
  have j3 := to55_S (o ++ [lfB] ++ [lfT]) (o.length + 1 + 1) (len_2 _ _ _) zB [zB, turnB] (by omega) (join_D _ (by kernel_rfl))
  refine SCall.retell (SCall.run Tryz.func60 rfl (Nat.le_of_ble_eq_true rfl) (by kernel_rfl) ?_)
  repeat' (first | with_reducible rfl | ((conv => whnf); first | refine And.intro ?_ ?_ | (intro h; first | with_reducible exact tf_no h | with_reducible exact ft_no h | exact Bool.noConfusion h | with_reducible exact h | (have ht : true = true := h; clear ht h) | skip) | ((with_reducible refine DWl.mark ?_); repeat' (first | refine DWl.cons ?_ ?_ | exact DWl.nil | exact DW.same _ rfl | exact DW.ref _ _ _ rfl | exact DW.arr _ _ _ rfl | exact DW.sub _ _ _ _ rfl | exact DW.mo _ _ rfl | exact DW.nilLst _ | refine DW.aggl ?_ | refine DW.tupl ?_ | refine DW.clol ?_ ?_ | refine DW.int ?_ | refine DW.bool ?_ | refine DW.str ?_)) | ((with_reducible refine SCall.mark ?_); first | refine SCall.scalT num57_1 (DWl.cons (DW.pubE rfl rfl (Nat.zero_lt_succ _) trivial rfl (i1_row 1) rfl) DWl.nil) rfl ?_ | refine SCall.scalT num57_0 (DWl.cons (DW.pubE rfl rfl (Nat.zero_lt_succ _) trivial rfl (i1_row 0) rfl) DWl.nil) rfl ?_ | refine SCall.at [0, 1, 5] (fun N => [(0, ⟨22, 1, [.arr N (o.length + 1)]⟩), (N, ⟨35, 2, rowL (o ++ [lfB])⟩)]) (fun _ => .tup []) 1 j1 (by kernel_rfl) ⟨ow_box rfl, ow_rows _, ow_path [zB, bootB] rfl, trivial⟩ (DWl.cons (DW.same _ rfl) (DWl.cons (DW.arr _ _ _ rfl) (DWl.cons (DW.ref _ _ _ rfl) DWl.nil))) (DW.tupl DWl.nil) ⟨ow_box rfl, ow_rows _, trivial⟩ ?_ | refine SCall.at [0, 6, 8] (fun N => [(0, ⟨22, 1, [.arr N (o.length + 1 + 1)]⟩), (N, ⟨35, 2, rowL (o ++ [lfB] ++ [lfT])⟩)]) (fun _ => .tup []) 1 j2 (by kernel_rfl) ⟨ow_box rfl, ow_rows _, ow_path [zB, ticksB] rfl, trivial⟩ (DWl.cons (DW.same _ rfl) (DWl.cons (DW.arr _ _ _ rfl) (DWl.cons (DW.ref _ _ _ rfl) DWl.nil))) (DW.tupl DWl.nil) ⟨ow_box rfl, ow_rows _, trivial⟩ ?_ | refine SCall.at [0, 9, 11] (fun N => [(0, ⟨22, 1, [.arr N (o.length + 1 + 1 + 1)]⟩), (N, ⟨35, 2, rowL (o ++ [lfB] ++ [lfT] ++ [lfU])⟩)]) (fun _ => .tup []) 1 j3 (by kernel_rfl) ⟨ow_box rfl, ow_rows _, ow_path [zB, turnB] rfl, trivial⟩ (DWl.cons (DW.same _ rfl) (DWl.cons (DW.arr _ _ _ rfl) (DWl.cons (DW.ref _ _ _ rfl) DWl.nil))) (DW.tupl DWl.nil) ⟨ow_box rfl, ow_rows _, trivial⟩ ?_) | ((with_reducible refine Tri.mark ?_); first | refine Tri.rounds 1 (by kernel_rfl) ?_) | ((with_reducible refine ECall.mark ?_); first | refine ECall.only ?_ (fun h => nomatch h) | refine ECall.only ?_ ?_) | ((with_reducible refine Drawn.mark ?_); first | refine Drawn.quiet (by kernel_rfl) ?_) | refine dcell_ok rfl ?_ | refine AppC.new ?_))
  all_goals try first | ((with_reducible show (_ : Nat) ≤ _); exact Nat.le_of_ble_eq_true (by kernel_rfl)) | ((with_reducible show (_ : Nat) < _); exact Nat.le_of_ble_eq_true (by kernel_rfl)) | ((with_reducible show (_ : Nat) = _); kernel_rfl) | ((with_reducible show (_ : Bool) = _); kernel_rfl) | ((with_reducible show (_ : Option _) = _); kernel_rfl) | ((with_reducible refine enters_mark ?_); kernel_rfl) | ((with_reducible show (_ : Int) ≤ _); exact of_decide_eq_true (by kernel_rfl)) | ((with_reducible show (_ : Int) < _); exact of_decide_eq_true (by kernel_rfl))
  all_goals (conv => whnf)
  refine Retold.list [(2, some 12)] [] (.tup []) [(0, ⟨22, 1, [.arr 2 (o.length + 1 + 1 + 1)]⟩), (2, ⟨35, 2, rowL (o ++ [lfB] ++ [lfT] ++ [lfU])⟩)] 3 (by kernel_rfl) (DW.tupl DWl.nil) ⟨ow_box rfl, ow_rows _, trivial⟩ ⟨rfl, rfl⟩
end Go.Proofs.YtagfmppjlfhmeaaGreatDoor
namespace Go.Proofs.YtagfmppjlfhmeaaGreatDoor
open Go.RowKit Go.Dl
attribute [local irreducible] Tri SCall TSem ECall Drawn DFun QSem PSem PCall GCall MCall Round Weak dloadE OW DWl Tells Retold ESem ESemW
def sizeB : ByteArray := ⟨#[115, 105, 122, 101]⟩
def upB : ByteArray := ⟨#[117, 112]⟩
def diskB : ByteArray := ⟨#[100, 105, 115, 107]⟩
def mailB : ByteArray := ⟨#[109, 97, 105, 108]⟩
def nextB : ByteArray := ⟨#[110, 101, 120, 116]⟩
def lostB : ByteArray := ⟨#[108, 111, 115, 116]⟩
def lf1 : Lf := ⟨joinB spaceB [sizeB], oB⟩
def lf2 : Lf := ⟨joinB spaceB [zB, upB], oB⟩
def lf3 (v : ByteArray) : Lf := ⟨joinB spaceB [zB, diskB], v⟩
def lf4 : Lf := ⟨joinB spaceB [mailB, nextB], zB⟩
def lf5 : Lf := ⟨joinB spaceB [lostB], zB⟩
def tb8 (v : ByteArray) (i : Fin 8) : Lf := [lf1, lf2, lf3 v, lfB, lfT, lfU, lf4, lf5].getD i.1 lf0
def pt8 (i : Fin 8) : ByteArray := [joinB spaceB [sizeB], joinB spaceB [zB, upB], joinB spaceB [zB, diskB], joinB spaceB [zB, bootB], joinB spaceB [zB, ticksB], joinB spaceB [zB, turnB], joinB spaceB [mailB, nextB], joinB spaceB [lostB]].getD i.1 emB
theorem tb_pt (v : ByteArray) (i : Fin 8) : (tb8 v i).p = pt8 i := by
  match i with
  | 0 => rfl
  | 1 => rfl
  | 2 => rfl
  | 3 => rfl
  | 4 => rfl
  | 5 => rfl
  | 6 => rfl
  | 7 => rfl
def lt8 (x y : Fin 8) : Bool := decide (cmpI (pt8 x) (pt8 y) < 0)
theorem lt_8 (v : ByteArray) (x y : Fin 8) : ltOf (cfL (tb8 v)) x y = lt8 x y := by
  unfold ltOf cfL lt8
  rw [tb_pt, tb_pt]
theorem tot_8 : ∀ x y : Fin 8, lt8 x y = false → lt8 y x = false → x = y := by decide +kernel
theorem irr_8 : ∀ x : Fin 8, lt8 x x = false := by decide +kernel
theorem tr_8 : ∀ x y z : Fin 8, lt8 x y = true → lt8 y z = true → lt8 x z = true := by decide +kernel
theorem ntr_8 : ∀ x y z : Fin 8, lt8 x y = false → lt8 y z = false → lt8 x z = false := by decide +kernel
theorem swo_8 (v : ByteArray) : Go.Sort.SWO (ltOf (cfL (tb8 v))) where
  irrefl x := by rw [lt_8]; exact irr_8 x
  trans x y z h1 h2 := by rw [lt_8] at *; exact tr_8 x y z h1 h2
  ntrans x y z h1 h2 := by rw [lt_8] at *; exact ntr_8 x y z h1 h2
theorem sort8_S (v : ByteArray) : SCall Tryz.prog 61 [.arr 0 8, .clo (.func 62) [] []] (.of [(0, ⟨35, 2, rowL [lf1, lf2, lf3 v, lfB, lfT, lfU, lf4, lf5]⟩)] 1) fun r' s' => r' = .tup [] ∧ s' = .of [(0, ⟨35, 2, rowL (srt8 (tb8 v))⟩)] 1 :=
  sort61_S (tb8 v) (swo_8 v) (fun x y h1 h2 => by rw [lt_8] at h1 h2; exact tot_8 x y h1 h2)
end Go.Proofs.YtagfmppjlfhmeaaGreatDoor
namespace Go.Proofs.YtagfmppjlfhmeaaGreatDoor
open Go.RowKit Go.Dl
attribute [local irreducible] Tri SCall TSem ECall Drawn DFun QSem PSem PCall GCall MCall Round Weak dloadE OW DWl Tells Retold ESem ESemW
attribute [local irreducible] joinB digB
theorem ow_nil {ρ : Nat → Option Nat} {s : Sto} {pub : Nat → Prop} : OW ρ s pub ⟨22, 1, [.v (.slice none 0 0)]⟩ ⟨22, 1, [.v (.slice none 0 0)]⟩ := OW.cells rfl rfl (DWl.same rfl)
theorem rowL_is (l : List Lf) : rowL l = (l.map lfD).flatten := rfl
theorem lf_rows {l : List Lf} : ∀ r ∈ l.map lfD, r.length = 2 ∧ r.all isData1 = true := by
  intro r hr
  obtain ⟨c, _, rfl⟩ := List.mem_map.1 hr
  exact ⟨rfl, rfl⟩
attribute [local irreducible] srt8
set_option maxRecDepth 100000 in
set_option maxHeartbeats 4000000 in
theorem leaves31_D (L : List Int) (hL : L.length = 64) (hr : ∀ x ∈ L, 0 ≤ x ∧ x < 256) : DPure Tryz.prog 31 [worldV (L.map u8D)] (lfs (srt8 (tb8 (digB L L.length)))) := by
  have hw := wfit54_D (L.map u8D) (by rw [List.length_map, hL])
  have hd := digits59_D L hL hr
  generalize digB L L.length = v at hd ⊢
  have j1 := to55_0 oB [sizeB] (join_D _ (by kernel_rfl))
  have j2 := to55_S [lf1] 1 rfl oB [zB, upB] (by omega) (join_D _ (by kernel_rfl))
  have j3 := to55_S [lf1, lf2] 2 rfl v [zB, diskB] (by omega) (join_D _ (by kernel_rfl))
  have j4 := node60_S [lf1, lf2, lf3 v] (show 3 ≤ 50 by omega)
  have j5 := to55_S [lf1, lf2, lf3 v, lfB, lfT, lfU] 6 rfl zB [mailB, nextB] (by omega) (join_D _ (by kernel_rfl))
  have j6 := to55_S [lf1, lf2, lf3 v, lfB, lfT, lfU, lf4] 7 rfl zB [lostB] (by omega) (join_D _ (by kernel_rfl))
  have j7 := sort8_S v
  refine DFun.data (DFun.body Tryz.func31 rfl (by kernel_rfl) ?_)
  repeat' (first | with_reducible rfl | ((conv => whnf); first | refine And.intro ?_ ?_ | (intro h; first | with_reducible exact tf_no h | with_reducible exact ft_no h | exact Bool.noConfusion h | with_reducible exact h | (have ht : true = true := h; clear ht h) | skip) | ((with_reducible refine DWl.mark ?_); repeat' (first | refine DWl.cons ?_ ?_ | exact DWl.nil | exact DW.same _ rfl | exact DW.ref _ _ _ rfl | exact DW.arr _ _ _ rfl | exact DW.sub _ _ _ _ rfl | exact DW.mo _ _ rfl | exact DW.nilLst _ | refine DW.aggl ?_ | refine DW.tupl ?_ | refine DW.clol ?_ ?_ | refine DW.int ?_ | refine DW.bool ?_ | refine DW.str ?_)) | ((with_reducible refine SCall.mark ?_); first | refine SCall.data (hw) rfl rfl ?_ | refine SCall.scal (hw) rfl rfl ?_ | refine SCall.data (hd) rfl rfl ?_ | refine SCall.scal (hd) rfl rfl ?_ | refine SCall.data (truth58_D) rfl rfl ?_ | refine SCall.scal (truth58_D) rfl rfl ?_ | refine SCall.scalT num57_1 (DWl.cons (DW.pubE rfl rfl (Nat.zero_lt_succ _) trivial rfl (i1_row 1) rfl) DWl.nil) rfl ?_ | refine SCall.scalT num57_0 (DWl.cons (DW.pubE rfl rfl (Nat.zero_lt_succ _) trivial rfl (i1_row 0) rfl) DWl.nil) rfl ?_ | refine SCall.at [1, 3] (fun N => [(1, ⟨22, 1, [.arr N 1]⟩), (N, ⟨35, 2, rowL [lf1]⟩)]) (fun _ => .tup []) 1 j1 (by kernel_rfl) ⟨ow_nil, ow_path [sizeB] rfl, trivial⟩ (DWl.cons (DW.same _ rfl) (DWl.cons (DW.arr _ _ _ rfl) (DWl.cons (DW.ref _ _ _ rfl) DWl.nil))) (DW.tupl DWl.nil) ⟨ow_box rfl, ow_rows _, trivial⟩ ?_ | refine SCall.at [1, 4, 8] (fun N => [(1, ⟨22, 1, [.arr N 2]⟩), (N, ⟨35, 2, rowL [lf1, lf2]⟩)]) (fun _ => .tup []) 1 j2 (by kernel_rfl) ⟨ow_box rfl, ow_rows _, ow_path [zB, upB] rfl, trivial⟩ (DWl.cons (DW.same _ rfl) (DWl.cons (DW.arr _ _ _ rfl) (DWl.cons (DW.ref _ _ _ rfl) DWl.nil))) (DW.tupl DWl.nil) ⟨ow_box rfl, ow_rows _, trivial⟩ ?_ | refine SCall.at [1, 9, 10] (fun N => [(1, ⟨22, 1, [.arr N 3]⟩), (N, ⟨35, 2, rowL [lf1, lf2, lf3 v]⟩)]) (fun _ => .tup []) 1 j3 (by kernel_rfl) ⟨ow_box rfl, ow_rows _, ow_path [zB, diskB] rfl, trivial⟩ (DWl.cons (DW.same _ rfl) (DWl.cons (DW.arr _ _ _ rfl) (DWl.cons (DW.ref _ _ _ rfl) DWl.nil))) (DW.tupl DWl.nil) ⟨ow_box rfl, ow_rows _, trivial⟩ ?_ | refine SCall.at [1, 11] (fun N => [(1, ⟨22, 1, [.arr N 6]⟩), (N, ⟨35, 2, rowL [lf1, lf2, lf3 v, lfB, lfT, lfU]⟩)]) (fun _ => .tup []) 1 j4 (by kernel_rfl) ⟨ow_box rfl, ow_rows _, trivial⟩ (DWl.cons (DW.clol DWl.nil (DWl.cons (DW.ref _ _ _ rfl) DWl.nil)) (DWl.cons (DW.aggl (DWl.same rfl)) DWl.nil)) (DW.tupl DWl.nil) ⟨ow_box rfl, ow_rows _, trivial⟩ ?_ | refine SCall.at [1, 12, 14] (fun N => [(1, ⟨22, 1, [.arr N 7]⟩), (N, ⟨35, 2, rowL [lf1, lf2, lf3 v, lfB, lfT, lfU, lf4]⟩)]) (fun _ => .tup []) 1 j5 (by kernel_rfl) ⟨ow_box rfl, ow_rows _, ow_path [mailB, nextB] rfl, trivial⟩ (DWl.cons (DW.same _ rfl) (DWl.cons (DW.arr _ _ _ rfl) (DWl.cons (DW.ref _ _ _ rfl) DWl.nil))) (DW.tupl DWl.nil) ⟨ow_box rfl, ow_rows _, trivial⟩ ?_ | refine SCall.at [1, 15, 17] (fun N => [(1, ⟨22, 1, [.arr N 8]⟩), (N, ⟨35, 2, rowL [lf1, lf2, lf3 v, lfB, lfT, lfU, lf4, lf5]⟩)]) (fun _ => .tup []) 1 j6 (by kernel_rfl) ⟨ow_box rfl, ow_rows _, ow_path [lostB] rfl, trivial⟩ (DWl.cons (DW.same _ rfl) (DWl.cons (DW.arr _ _ _ rfl) (DWl.cons (DW.ref _ _ _ rfl) DWl.nil))) (DW.tupl DWl.nil) ⟨ow_box rfl, ow_rows _, trivial⟩ ?_ | refine SCall.at [18] (fun _ => [(18, ⟨35, 2, rowL (srt8 (tb8 v))⟩)]) (fun _ => .tup []) 0 j7 (by kernel_rfl) ⟨ow_rows _, trivial⟩ (DWl.cons (DW.arr _ _ _ rfl) (DWl.cons (DW.same _ rfl) DWl.nil)) (DW.tupl DWl.nil) ⟨ow_rows _, trivial⟩ ?_) | ((with_reducible refine PCall.mark ?_); first | refine PCall.mk (hw) rfl rfl ?_ | refine PCall.mk (hd) rfl rfl ?_ | refine PCall.mk (truth58_D) rfl rfl ?_) | ((with_reducible refine GCall.mark ?_); first | refine GCall.data (fun _ => hw) rfl rfl ?_ | refine GCall.scal (fun _ => hw) rfl rfl ?_ | refine GCall.data (fun _ => hd) rfl rfl ?_ | refine GCall.scal (fun _ => hd) rfl rfl ?_ | refine GCall.data (fun _ => truth58_D) rfl rfl ?_ | refine GCall.scal (fun _ => truth58_D) rfl rfl ?_) | ((with_reducible refine MCall.mark ?_); first | refine MCall.data (fun _ => hw) rfl rfl ?_ | refine MCall.plain (PCall.mk (hw) rfl rfl ?_) | refine MCall.data (fun _ => hd) rfl rfl ?_ | refine MCall.plain (PCall.mk (hd) rfl rfl ?_) | refine MCall.data (fun _ => truth58_D) rfl rfl ?_ | refine MCall.plain (PCall.mk (truth58_D) rfl rfl ?_)) | ((with_reducible refine Tri.mark ?_); first | refine Tri.rounds 2 (by kernel_rfl) ?_) | ((with_reducible refine ECall.mark ?_); first | refine ECall.only ?_ (fun h => nomatch h) | refine ECall.only ?_ ?_) | ((with_reducible refine Drawn.mark ?_); first | refine Drawn.quiet (by kernel_rfl) ?_) | refine dloadE_go ?_ | refine dcell_ok rfl ?_ | refine AppC.new ?_))
  all_goals try first | ((with_reducible show (_ : Nat) ≤ _); exact Nat.le_of_ble_eq_true (by kernel_rfl)) | ((with_reducible show (_ : Nat) < _); exact Nat.le_of_ble_eq_true (by kernel_rfl)) | ((with_reducible show (_ : Nat) = _); kernel_rfl) | ((with_reducible show (_ : Bool) = _); kernel_rfl) | ((with_reducible show (_ : Option _) = _); kernel_rfl) | ((with_reducible refine enters_mark ?_); kernel_rfl) | ((with_reducible show (_ : Int) ≤ _); exact of_decide_eq_true (by kernel_rfl)) | ((with_reducible show (_ : Int) < _); exact of_decide_eq_true (by kernel_rfl))
  all_goals (conv => whnf)
  exact Tells.mk (DW.pubM (l := srt8 (tb8 v)) (f := lfD) rfl (srt8_len _) rfl rfl lf_rows (rowL_is _))
end Go.Proofs.YtagfmppjlfhmeaaGreatDoor
