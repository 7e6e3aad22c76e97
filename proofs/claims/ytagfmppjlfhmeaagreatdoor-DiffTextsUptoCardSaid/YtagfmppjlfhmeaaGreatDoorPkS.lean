/- A line read: the program's. -/
import Derived.Test.YtagfmppjlfhmeaaGreatDoorPkO
import Derived.Test.YtagfmppjlfhmeaaGreatDoorPkG

namespace Go.Proofs.YtagfmppjlfhmeaaGreatDoor
open Go.RowKit Go.Dl
attribute [local irreducible] Tri SCall TSem ECall Drawn DFun QSem PSem PCall GCall MCall Round Weak dloadE OW DWl Tells IntKind.wrap Retold ESem
def okC (c : Ch) (s : ByteArray) : Ch × Bool := (c, bif oneB c then lineC c == s else false)
def restA (s : ByteArray) : ByteArray := (cutT s isB).1
def saidA (s : ByteArray) : ByteArray := (cutT s isB).2.1
def badA (s : ByteArray) : Bool := bif !(cutT s isB).2.2 then true else decide (((restA s).size : Int) < 2)
def headA (s : ByteArray) : ByteArray := (restA s).extract 0 2
def pathA (s : ByteArray) : ByteArray := (restA s).extract 2 (restA s).size
def wasA (s : ByteArray) : ByteArray := (cutT (saidA s) toB).1
def isA (s : ByteArray) : ByteArray := (cutT (saidA s) toB).2.1
def readC (s : ByteArray) : Ch × Bool :=
  bif badA s then (ch0, false)
  else bif headA s == plusB then okC ⟨pathA s, false, emB, true, saidA s⟩ s
  else bif headA s == minusB then okC ⟨pathA s, true, saidA s, false, emB⟩ s
  else bif headA s == wavB then (bif !(cutT (saidA s) toB).2.2 then (⟨pathA s, true, wasA s, true, isA s⟩, false) else okC ⟨pathA s, true, wasA s, true, isA s⟩ s)
  else (⟨pathA s, false, emB, false, emB⟩, false)
theorem bs_size (l : List UInt8) : (bs l).size = l.length := by show l.toArray.size = _; simp
theorem cut_sz (s sep : ByteArray) : (cutT s sep).1.size ≤ s.size ∧ (cutT s sep).2.1.size ≤ s.size := by
  unfold cutT
  rw [bs_size, bs_size, ← ba_len s]
  unfold Lib.cut
  split
  · simp only [List.length_take, List.length_drop]; omega
  · exact ⟨Nat.le_refl _, Nat.zero_le _⟩
theorem ext_sz (r : ByteArray) (a b : Nat) : (r.extract a b).size ≤ r.size := by
  rw [ByteArray.size_extract]; omega
theorem sz_em {n : Nat} : emB.size ≤ n := Nat.zero_le _
structure Szs (s : ByteArray) : Prop where
  p : (pathA s).size ≤ 1600000
  d : (saidA s).size ≤ 1600000
  w : (wasA s).size ≤ 1600000
  i : (isA s).size ≤ 1600000
theorem szs_of {s : ByteArray} (h : s.size ≤ 1600000) : Szs s := by
  have h1 := cut_sz s isB
  have h2 := cut_sz (saidA s) toB
  have h3 := ext_sz (restA s) 2 (restA s).size
  have e1 : (cutT s isB).1 = restA s := rfl
  have e2 : (cutT s isB).2.1 = saidA s := rfl
  rw [e1, e2] at h1
  exact ⟨Nat.le_trans h3 (Nat.le_trans h1.1 h), Nat.le_trans h1.2 h, Nat.le_trans h2.1 (Nat.le_trans h1.2 h), Nat.le_trans h2.2 (Nat.le_trans h1.2 h)⟩
theorem big {a : ByteArray} (h : a.size ≤ 1600000) : a.size ≤ 9223372036854775807 := Nat.le_trans h (by decide)
theorem cutA_D (s : ByteArray) (h : s.size ≤ 1600000) : DPure Tryz.prog 39 [strV s, strV isB] (.tup [strV (restA s), strV (saidA s), bl (cutT s isB).2.2]) := cut39_D s isB (by omega)
theorem cutB_D (s : ByteArray) (h : s.size ≤ 1600000) : DPure Tryz.prog 39 [strV (saidA s), strV toB] (.tup [strV (wasA s), strV (isA s), bl (cutT (saidA s) toB).2.2]) := cut39_D (saidA s) toB (by have := (szs_of h).d; omega)
theorem rd_0 {s : ByteArray} (h : badA s = true) : readC s = (ch0, false) := by unfold readC; rw [h]; rfl
theorem rd_1 {s : ByteArray} (h : badA s = false) (h1 : (headA s == plusB) = true) : readC s = okC ⟨pathA s, false, emB, true, saidA s⟩ s := by unfold readC; rw [h, h1]; rfl
theorem rd_2 {s : ByteArray} (h : badA s = false) (h1 : (headA s == plusB) = false) (h2 : (headA s == minusB) = true) : readC s = okC ⟨pathA s, true, saidA s, false, emB⟩ s := by unfold readC; rw [h, h1, h2]; rfl
theorem rd_3 {s : ByteArray} (h : badA s = false) (h1 : (headA s == plusB) = false) (h2 : (headA s == minusB) = false) (h3 : (headA s == wavB) = true) (h4 : (!(cutT (saidA s) toB).2.2) = true) : readC s = (⟨pathA s, true, wasA s, true, isA s⟩, false) := by unfold readC; rw [h, h1, h2, h3, h4]; rfl
theorem rd_4 {s : ByteArray} (h : badA s = false) (h1 : (headA s == plusB) = false) (h2 : (headA s == minusB) = false) (h3 : (headA s == wavB) = true) (h4 : (!(cutT (saidA s) toB).2.2) = false) : readC s = okC ⟨pathA s, true, wasA s, true, isA s⟩ s := by unfold readC; rw [h, h1, h2, h3, h4]; rfl
theorem rd_5 {s : ByteArray} (h : badA s = false) (h1 : (headA s == plusB) = false) (h2 : (headA s == minusB) = false) (h3 : (headA s == wavB) = false) : readC s = (⟨pathA s, false, emB, false, emB⟩, false) := by unfold readC; rw [h, h1, h2, h3]; rfl
theorem lt3 {α : Type} {i : Nat} (a b c : α) (h : i < 3) : i < [a, b, c].length := h
theorem bad_sz {s : ByteArray} (h : badA s = false) : (2 : Int) ≤ ((restA s).size : Int) := by
  unfold badA at h
  cases k : (cutT s isB).2.2 with
  | false => rw [k] at h; cases h
  | true =>
    rw [k] at h
    have := of_decide_eq_false (show decide (((restA s).size : Int) < 2) = false from h)
    omega
def rdV (q : Ch × Bool) : DV := .tup [.agg (chD q.1), bl q.2]
attribute [local irreducible] oneB lineC cutT restA saidA wasA isA ByteArray.extract
set_option maxRecDepth 100000 in
set_option maxHeartbeats 600000 in
theorem read40_0 (s : ByteArray) (hs : s.size ≤ 1600000) (b0 : badA s = true) : DPure Tryz.prog 40 [strV s] (rdV (readC s)) := by
  have hz := szs_of hs
  have hA := cutA_D s hs
  have hB := cutB_D s hs
  have hT : (bif !(cutT s isB).2.2 then true else decide (((restA s).size : Int) < 2)) = true := b0
  refine DFun.data (DFun.body Tryz.func40 rfl (by kernel_rfl) ?_)
  repeat' (first | with_reducible rfl | ((conv => whnf); first | refine And.intro ?_ ?_ | (intro h; first | with_reducible exact tf_no h | with_reducible exact ft_no h | exact Bool.noConfusion h | with_reducible exact h | (exfalso; exact bt_x hT h) | (have ht : true = true := h; clear ht h) | skip) | ((with_reducible refine SCall.mark ?_); first | refine SCall.data (hA) rfl rfl ?_ | refine SCall.scal (hA) rfl rfl ?_ | refine SCall.data (hB) rfl rfl ?_ | refine SCall.scal (hB) rfl rfl ?_) | ((with_reducible refine PCall.mark ?_); first | refine PCall.mk (hA) rfl rfl ?_ | refine PCall.mk (hB) rfl rfl ?_) | ((with_reducible refine GCall.mark ?_); first | refine GCall.data (fun _ => hA) rfl rfl ?_ | refine GCall.scal (fun _ => hA) rfl rfl ?_ | refine GCall.data (fun _ => hB) rfl rfl ?_ | refine GCall.scal (fun _ => hB) rfl rfl ?_) | ((with_reducible refine MCall.mark ?_); first | refine MCall.data (fun _ => hA) rfl rfl ?_ | refine MCall.plain (PCall.mk (hA) rfl rfl ?_) | refine MCall.data (fun _ => hB) rfl rfl ?_ | refine MCall.plain (PCall.mk (hB) rfl rfl ?_)) | ((with_reducible refine ECall.mark ?_); first | refine ECall.only ?_ (fun h => nomatch h) | refine ECall.only ?_ ?_) | ((with_reducible refine Drawn.mark ?_); first | refine Drawn.quiet (by kernel_rfl) ?_) | refine dloadE_map (ch0) ?_ ?_ | refine dcell_ok rfl ?_ | refine AppC.new ?_))
  all_goals try first | ((with_reducible show Option.isSome (slElem _ _) = true); kernel_rfl) | ((with_reducible show slElem _ _ = some _); kernel_rfl) | ((with_reducible refine enters_mark ?_); kernel_rfl) | (with_reducible assumption) | ((with_reducible show List.all _ DV.one = true); rfl) | ((with_reducible show (_ : Nat) = _); rfl) | ((with_reducible show (_ == true) = true); first | (simp; done) | simpa using h) | ((with_reducible show (_ : Nat) ≤ _); exact Nat.le_of_ble_eq_true rfl) | ((with_reducible show (_ : Int) ≤ _); first | omega | decide) | ((with_reducible show (_ : Int) < _); first | omega | decide) | ((with_reducible show (_ : Nat) < _); omega) | ((with_reducible show (_ : Nat) ≤ _); omega)
  all_goals try (first | ((with_reducible show (_ : Nat) < List.length _); exact lt3 _ _ _ (by decide)) | ((with_reducible show isStr _ _ = true); kernel_rfl) | (with_reducible exact tnb h) | ((with_reducible show Option.all _ _ = true); rfl))
  repeat' (first | with_reducible rfl | ((conv => whnf); first | refine And.intro ?_ ?_ | (intro h; first | with_reducible exact tf_no h | with_reducible exact ft_no h | exact Bool.noConfusion h | with_reducible exact h | (have ht : true = true := h; clear ht h) | skip) | ((with_reducible refine ECall.mark ?_); first | refine ECall.only ?_ (fun h => nomatch h) | refine ECall.only ?_ ?_) | ((with_reducible refine Drawn.mark ?_); first | refine Drawn.quiet (by kernel_rfl) ?_) | refine dloadE_map (ch0) ?_ ?_ | refine dcell_ok rfl ?_ | refine AppC.new ?_))
  all_goals (conv => whnf)
  all_goals exact Tells.of (congrArg rdV (rd_0 b0)) (Tells.mk (DW.tupl (DWl.cons (DW.aggl (DWl.cons (DW.same _ rfl) (DWl.cons (DW.same _ rfl) (DWl.cons (DW.same _ rfl) (DWl.cons (DW.same _ rfl) (DWl.cons (DW.same _ rfl) DWl.nil)))))) (DWl.cons (DW.same _ rfl) DWl.nil))))
set_option maxRecDepth 100000 in
set_option maxHeartbeats 600000 in
theorem read40_1 (s : ByteArray) (hs : s.size ≤ 1600000) (b0 : badA s = false) (b1 : (headA s == plusB) = true) : DPure Tryz.prog 40 [strV s] (rdV (readC s)) := by
  have hz := szs_of hs
  have c1 : ((restA s).extract (Int.toNat 0) (Int.toNat 2) == (⟨#[43, 32]⟩ : ByteArray)) = true := b1
  have hA := cutA_D s hs
  have hB := cutB_D s hs
  have hT : (bif !(cutT s isB).2.2 then true else decide (((restA s).size : Int) < 2)) = false := b0
  have hrs := bad_sz b0
  have hf := fit48_D ⟨pathA s, false, emB, true, saidA s⟩ (big hz.p) (big sz_em) (big hz.d)
  have hl := line43_D ⟨pathA s, false, emB, true, saidA s⟩ ⟨hz.p, sz_em, hz.d⟩
  refine DFun.data (DFun.body Tryz.func40 rfl (by kernel_rfl) ?_)
  repeat' (first | with_reducible rfl | ((conv => whnf); first | refine And.intro ?_ ?_ | (intro h; first | with_reducible exact tf_no h | with_reducible exact ft_no h | exact Bool.noConfusion h | with_reducible exact h | (exfalso; exact bt_x hT h) | (exfalso; exact bt_x c1 h) | (have ht : true = true := h; clear ht h) | skip) | ((with_reducible refine SCall.mark ?_); first | refine SCall.data (hA) rfl rfl ?_ | refine SCall.scal (hA) rfl rfl ?_ | refine SCall.data (hB) rfl rfl ?_ | refine SCall.scal (hB) rfl rfl ?_ | refine SCall.data (hf) rfl rfl ?_ | refine SCall.scal (hf) rfl rfl ?_ | refine SCall.data (hl) rfl rfl ?_ | refine SCall.scal (hl) rfl rfl ?_) | ((with_reducible refine PCall.mark ?_); first | refine PCall.mk (hA) rfl rfl ?_ | refine PCall.mk (hB) rfl rfl ?_ | refine PCall.mk (hf) rfl rfl ?_ | refine PCall.mk (hl) rfl rfl ?_) | ((with_reducible refine GCall.mark ?_); first | refine GCall.data (fun _ => hA) rfl rfl ?_ | refine GCall.scal (fun _ => hA) rfl rfl ?_ | refine GCall.data (fun _ => hB) rfl rfl ?_ | refine GCall.scal (fun _ => hB) rfl rfl ?_ | refine GCall.data (fun _ => hf) rfl rfl ?_ | refine GCall.scal (fun _ => hf) rfl rfl ?_ | refine GCall.data (fun _ => hl) rfl rfl ?_ | refine GCall.scal (fun _ => hl) rfl rfl ?_) | ((with_reducible refine MCall.mark ?_); first | refine MCall.data (fun _ => hA) rfl rfl ?_ | refine MCall.plain (PCall.mk (hA) rfl rfl ?_) | refine MCall.data (fun _ => hB) rfl rfl ?_ | refine MCall.plain (PCall.mk (hB) rfl rfl ?_) | refine MCall.data (fun _ => hf) rfl rfl ?_ | refine MCall.plain (PCall.mk (hf) rfl rfl ?_) | refine MCall.data (fun _ => hl) rfl rfl ?_ | refine MCall.plain (PCall.mk (hl) rfl rfl ?_)) | ((with_reducible refine Tri.mark ?_); first | (refine Tri.treeX [0] (MX.mv 0 0 (MX.mv 0 1 (MX.mv 2 2 (MX.mv 0 3 (MX.mv 0 6 (MX.mv 1 4 (MX.mv 2 5 (MX.mv 0 7 (MX.mv 0 8 (MX.mv 1 9 (MX.mv 1 10 MX.done))))))))))) ?_ (by kernel_rfl) ?_; rfl)) | ((with_reducible refine ECall.mark ?_); first | refine ECall.alt (strV (lineC ⟨pathA s, false, emB, true, saidA s⟩)) (fun _ => SCall.data hl rfl rfl ?_) ?_ | refine ECall.only ?_ (fun h => nomatch h) | refine ECall.only ?_ ?_) | ((with_reducible refine Drawn.mark ?_); first | refine Drawn.quiet (by kernel_rfl) ?_) | refine dloadE_map (ch0) ?_ ?_ | refine dcell_ok rfl ?_ | refine AppC.new ?_))
  all_goals try first | ((with_reducible show Option.isSome (slElem _ _) = true); kernel_rfl) | ((with_reducible show slElem _ _ = some _); kernel_rfl) | ((with_reducible refine enters_mark ?_); kernel_rfl) | (with_reducible assumption) | ((with_reducible show List.all _ DV.one = true); rfl) | ((with_reducible show (_ : Nat) = _); rfl) | ((with_reducible show (_ == true) = true); first | (simp; done) | simpa using h) | ((with_reducible show (_ : Nat) ≤ _); exact Nat.le_of_ble_eq_true rfl) | ((with_reducible show (_ : Int) ≤ _); first | omega | decide) | ((with_reducible show (_ : Int) < _); first | omega | decide) | ((with_reducible show (_ : Nat) < _); omega) | ((with_reducible show (_ : Nat) ≤ _); omega)
  all_goals try (first | ((with_reducible show (_ : Nat) < List.length _); exact lt3 _ _ _ (by decide)) | ((with_reducible show isStr _ _ = true); kernel_rfl) | (with_reducible exact tnb h) | (exact hrs; done) | ((with_reducible show Option.all _ _ = true); rfl))
  repeat' (first | with_reducible rfl | ((conv => whnf); first | refine And.intro ?_ ?_ | (intro h; first | with_reducible exact tf_no h | with_reducible exact ft_no h | exact Bool.noConfusion h | with_reducible exact h | (have ht : true = true := h; clear ht h) | skip) | ((with_reducible refine ECall.mark ?_); first | refine ECall.only ?_ (fun h => nomatch h) | refine ECall.only ?_ ?_) | ((with_reducible refine Drawn.mark ?_); first | refine Drawn.quiet (by kernel_rfl) ?_) | refine dloadE_map (ch0) ?_ ?_ | refine dcell_ok rfl ?_ | refine AppC.new ?_))
  all_goals (conv => whnf)
  all_goals exact Tells.of (congrArg rdV (rd_1 b0 b1)) (Tells.mk (DW.tupl (DWl.cons (DW.aggl (DWl.cons (DW.same _ rfl) (DWl.cons (DW.same _ rfl) (DWl.cons (DW.same _ rfl) (DWl.cons (DW.same _ rfl) (DWl.cons (DW.same _ rfl) DWl.nil)))))) (DWl.cons (DW.same _ rfl) DWl.nil))))
set_option maxRecDepth 100000 in
set_option maxHeartbeats 600000 in
theorem read40_2 (s : ByteArray) (hs : s.size ≤ 1600000) (b0 : badA s = false) (b1 : (headA s == plusB) = false) (b2 : (headA s == minusB) = true) : DPure Tryz.prog 40 [strV s] (rdV (readC s)) := by
  have hz := szs_of hs
  have c1 : ((restA s).extract (Int.toNat 0) (Int.toNat 2) == (⟨#[43, 32]⟩ : ByteArray)) = false := b1
  have c2 : ((restA s).extract (Int.toNat 0) (Int.toNat 2) == (⟨#[45, 32]⟩ : ByteArray)) = true := b2
  have hA := cutA_D s hs
  have hB := cutB_D s hs
  have hT : (bif !(cutT s isB).2.2 then true else decide (((restA s).size : Int) < 2)) = false := b0
  have hrs := bad_sz b0
  have hf := fit48_D ⟨pathA s, true, saidA s, false, emB⟩ (big hz.p) (big hz.d) (big sz_em)
  have hl := line43_D ⟨pathA s, true, saidA s, false, emB⟩ ⟨hz.p, hz.d, sz_em⟩
  refine DFun.data (DFun.body Tryz.func40 rfl (by kernel_rfl) ?_)
  repeat' (first | with_reducible rfl | ((conv => whnf); first | refine And.intro ?_ ?_ | (intro h; first | with_reducible exact tf_no h | with_reducible exact ft_no h | exact Bool.noConfusion h | with_reducible exact h | (exfalso; exact bt_x hT h) | (exfalso; exact bt_x c1 h) | (exfalso; exact bt_x c2 h) | (have ht : true = true := h; clear ht h) | skip) | ((with_reducible refine SCall.mark ?_); first | refine SCall.data (hA) rfl rfl ?_ | refine SCall.scal (hA) rfl rfl ?_ | refine SCall.data (hB) rfl rfl ?_ | refine SCall.scal (hB) rfl rfl ?_ | refine SCall.data (hf) rfl rfl ?_ | refine SCall.scal (hf) rfl rfl ?_ | refine SCall.data (hl) rfl rfl ?_ | refine SCall.scal (hl) rfl rfl ?_) | ((with_reducible refine PCall.mark ?_); first | refine PCall.mk (hA) rfl rfl ?_ | refine PCall.mk (hB) rfl rfl ?_ | refine PCall.mk (hf) rfl rfl ?_ | refine PCall.mk (hl) rfl rfl ?_) | ((with_reducible refine GCall.mark ?_); first | refine GCall.data (fun _ => hA) rfl rfl ?_ | refine GCall.scal (fun _ => hA) rfl rfl ?_ | refine GCall.data (fun _ => hB) rfl rfl ?_ | refine GCall.scal (fun _ => hB) rfl rfl ?_ | refine GCall.data (fun _ => hf) rfl rfl ?_ | refine GCall.scal (fun _ => hf) rfl rfl ?_ | refine GCall.data (fun _ => hl) rfl rfl ?_ | refine GCall.scal (fun _ => hl) rfl rfl ?_) | ((with_reducible refine MCall.mark ?_); first | refine MCall.data (fun _ => hA) rfl rfl ?_ | refine MCall.plain (PCall.mk (hA) rfl rfl ?_) | refine MCall.data (fun _ => hB) rfl rfl ?_ | refine MCall.plain (PCall.mk (hB) rfl rfl ?_) | refine MCall.data (fun _ => hf) rfl rfl ?_ | refine MCall.plain (PCall.mk (hf) rfl rfl ?_) | refine MCall.data (fun _ => hl) rfl rfl ?_ | refine MCall.plain (PCall.mk (hl) rfl rfl ?_)) | ((with_reducible refine Tri.mark ?_); first | (refine Tri.treeX [0] (MX.mv 0 0 (MX.mv 0 1 (MX.mv 2 2 (MX.mv 0 3 (MX.mv 0 6 (MX.mv 1 4 (MX.mv 2 5 (MX.mv 0 7 (MX.mv 0 8 (MX.mv 1 9 (MX.mv 1 10 MX.done))))))))))) ?_ (by kernel_rfl) ?_; rfl)) | ((with_reducible refine ECall.mark ?_); first | refine ECall.alt (strV (lineC ⟨pathA s, true, saidA s, false, emB⟩)) (fun _ => SCall.data hl rfl rfl ?_) ?_ | refine ECall.only ?_ (fun h => nomatch h) | refine ECall.only ?_ ?_) | ((with_reducible refine Drawn.mark ?_); first | refine Drawn.quiet (by kernel_rfl) ?_) | refine dloadE_map (ch0) ?_ ?_ | refine dcell_ok rfl ?_ | refine AppC.new ?_))
  all_goals try first | ((with_reducible show Option.isSome (slElem _ _) = true); kernel_rfl) | ((with_reducible show slElem _ _ = some _); kernel_rfl) | ((with_reducible refine enters_mark ?_); kernel_rfl) | (with_reducible assumption) | ((with_reducible show List.all _ DV.one = true); rfl) | ((with_reducible show (_ : Nat) = _); rfl) | ((with_reducible show (_ == true) = true); first | (simp; done) | simpa using h) | ((with_reducible show (_ : Nat) ≤ _); exact Nat.le_of_ble_eq_true rfl) | ((with_reducible show (_ : Int) ≤ _); first | omega | decide) | ((with_reducible show (_ : Int) < _); first | omega | decide) | ((with_reducible show (_ : Nat) < _); omega) | ((with_reducible show (_ : Nat) ≤ _); omega)
  all_goals try (first | ((with_reducible show (_ : Nat) < List.length _); exact lt3 _ _ _ (by decide)) | ((with_reducible show isStr _ _ = true); kernel_rfl) | (with_reducible exact tnb h) | (exact hrs; done) | ((with_reducible show Option.all _ _ = true); rfl))
  repeat' (first | with_reducible rfl | ((conv => whnf); first | refine And.intro ?_ ?_ | (intro h; first | with_reducible exact tf_no h | with_reducible exact ft_no h | exact Bool.noConfusion h | with_reducible exact h | (have ht : true = true := h; clear ht h) | skip) | ((with_reducible refine ECall.mark ?_); first | refine ECall.only ?_ (fun h => nomatch h) | refine ECall.only ?_ ?_) | ((with_reducible refine Drawn.mark ?_); first | refine Drawn.quiet (by kernel_rfl) ?_) | refine dloadE_map (ch0) ?_ ?_ | refine dcell_ok rfl ?_ | refine AppC.new ?_))
  all_goals (conv => whnf)
  all_goals exact Tells.of (congrArg rdV (rd_2 b0 b1 b2)) (Tells.mk (DW.tupl (DWl.cons (DW.aggl (DWl.cons (DW.same _ rfl) (DWl.cons (DW.same _ rfl) (DWl.cons (DW.same _ rfl) (DWl.cons (DW.same _ rfl) (DWl.cons (DW.same _ rfl) DWl.nil)))))) (DWl.cons (DW.same _ rfl) DWl.nil))))
set_option maxRecDepth 100000 in
set_option maxHeartbeats 600000 in
theorem read40_3 (s : ByteArray) (hs : s.size ≤ 1600000) (b0 : badA s = false) (b1 : (headA s == plusB) = false) (b2 : (headA s == minusB) = false) (b3 : (headA s == wavB) = true) (b4 : (!(cutT (saidA s) toB).2.2) = true) : DPure Tryz.prog 40 [strV s] (rdV (readC s)) := by
  have hz := szs_of hs
  have c1 : ((restA s).extract (Int.toNat 0) (Int.toNat 2) == (⟨#[43, 32]⟩ : ByteArray)) = false := b1
  have c2 : ((restA s).extract (Int.toNat 0) (Int.toNat 2) == (⟨#[45, 32]⟩ : ByteArray)) = false := b2
  have c3 : ((restA s).extract (Int.toNat 0) (Int.toNat 2) == (⟨#[126, 32]⟩ : ByteArray)) = true := b3
  have hA := cutA_D s hs
  have hB := cutB_D s hs
  have hT : (bif !(cutT s isB).2.2 then true else decide (((restA s).size : Int) < 2)) = false := b0
  have hrs := bad_sz b0
  refine DFun.data (DFun.body Tryz.func40 rfl (by kernel_rfl) ?_)
  repeat' (first | with_reducible rfl | ((conv => whnf); first | refine And.intro ?_ ?_ | (intro h; first | with_reducible exact tf_no h | with_reducible exact ft_no h | exact Bool.noConfusion h | with_reducible exact h | (exfalso; exact bt_x hT h) | (exfalso; exact bt_x c1 h) | (exfalso; exact bt_x c2 h) | (exfalso; exact bt_x c3 h) | (exfalso; exact bt_x b4 h) | (have ht : true = true := h; clear ht h) | skip) | ((with_reducible refine SCall.mark ?_); first | refine SCall.data (hA) rfl rfl ?_ | refine SCall.scal (hA) rfl rfl ?_ | refine SCall.data (hB) rfl rfl ?_ | refine SCall.scal (hB) rfl rfl ?_) | ((with_reducible refine PCall.mark ?_); first | refine PCall.mk (hA) rfl rfl ?_ | refine PCall.mk (hB) rfl rfl ?_) | ((with_reducible refine GCall.mark ?_); first | refine GCall.data (fun _ => hA) rfl rfl ?_ | refine GCall.scal (fun _ => hA) rfl rfl ?_ | refine GCall.data (fun _ => hB) rfl rfl ?_ | refine GCall.scal (fun _ => hB) rfl rfl ?_) | ((with_reducible refine MCall.mark ?_); first | refine MCall.data (fun _ => hA) rfl rfl ?_ | refine MCall.plain (PCall.mk (hA) rfl rfl ?_) | refine MCall.data (fun _ => hB) rfl rfl ?_ | refine MCall.plain (PCall.mk (hB) rfl rfl ?_)) | ((with_reducible refine ECall.mark ?_); first | refine ECall.only ?_ (fun h => nomatch h) | refine ECall.only ?_ ?_) | ((with_reducible refine Drawn.mark ?_); first | refine Drawn.quiet (by kernel_rfl) ?_) | refine dloadE_map (ch0) ?_ ?_ | refine dcell_ok rfl ?_ | refine AppC.new ?_))
  all_goals try first | ((with_reducible show Option.isSome (slElem _ _) = true); kernel_rfl) | ((with_reducible show slElem _ _ = some _); kernel_rfl) | ((with_reducible refine enters_mark ?_); kernel_rfl) | (with_reducible assumption) | ((with_reducible show List.all _ DV.one = true); rfl) | ((with_reducible show (_ : Nat) = _); rfl) | ((with_reducible show (_ == true) = true); first | (simp; done) | simpa using h) | ((with_reducible show (_ : Nat) ≤ _); exact Nat.le_of_ble_eq_true rfl) | ((with_reducible show (_ : Int) ≤ _); first | omega | decide) | ((with_reducible show (_ : Int) < _); first | omega | decide) | ((with_reducible show (_ : Nat) < _); omega) | ((with_reducible show (_ : Nat) ≤ _); omega)
  all_goals try (first | ((with_reducible show (_ : Nat) < List.length _); exact lt3 _ _ _ (by decide)) | ((with_reducible show isStr _ _ = true); kernel_rfl) | (with_reducible exact tnb h) | (exact hrs; done) | ((with_reducible show Option.all _ _ = true); rfl))
  repeat' (first | with_reducible rfl | ((conv => whnf); first | refine And.intro ?_ ?_ | (intro h; first | with_reducible exact tf_no h | with_reducible exact ft_no h | exact Bool.noConfusion h | with_reducible exact h | (have ht : true = true := h; clear ht h) | skip) | ((with_reducible refine ECall.mark ?_); first | refine ECall.only ?_ (fun h => nomatch h) | refine ECall.only ?_ ?_) | ((with_reducible refine Drawn.mark ?_); first | refine Drawn.quiet (by kernel_rfl) ?_) | refine dloadE_map (ch0) ?_ ?_ | refine dcell_ok rfl ?_ | refine AppC.new ?_))
  all_goals (conv => whnf)
  all_goals exact Tells.of (congrArg rdV (rd_3 b0 b1 b2 b3 b4)) (Tells.mk (DW.tupl (DWl.cons (DW.aggl (DWl.cons (DW.same _ rfl) (DWl.cons (DW.same _ rfl) (DWl.cons (DW.same _ rfl) (DWl.cons (DW.same _ rfl) (DWl.cons (DW.same _ rfl) DWl.nil)))))) (DWl.cons (DW.same _ rfl) DWl.nil))))
set_option maxRecDepth 100000 in
set_option maxHeartbeats 600000 in
theorem read40_4 (s : ByteArray) (hs : s.size ≤ 1600000) (b0 : badA s = false) (b1 : (headA s == plusB) = false) (b2 : (headA s == minusB) = false) (b3 : (headA s == wavB) = true) (b4 : (!(cutT (saidA s) toB).2.2) = false) : DPure Tryz.prog 40 [strV s] (rdV (readC s)) := by
  have hz := szs_of hs
  have c1 : ((restA s).extract (Int.toNat 0) (Int.toNat 2) == (⟨#[43, 32]⟩ : ByteArray)) = false := b1
  have c2 : ((restA s).extract (Int.toNat 0) (Int.toNat 2) == (⟨#[45, 32]⟩ : ByteArray)) = false := b2
  have c3 : ((restA s).extract (Int.toNat 0) (Int.toNat 2) == (⟨#[126, 32]⟩ : ByteArray)) = true := b3
  have hA := cutA_D s hs
  have hB := cutB_D s hs
  have hT : (bif !(cutT s isB).2.2 then true else decide (((restA s).size : Int) < 2)) = false := b0
  have hrs := bad_sz b0
  have hf := fit48_D ⟨pathA s, true, wasA s, true, isA s⟩ (big hz.p) (big hz.w) (big hz.i)
  have hl := line43_D ⟨pathA s, true, wasA s, true, isA s⟩ ⟨hz.p, hz.w, hz.i⟩
  refine DFun.data (DFun.body Tryz.func40 rfl (by kernel_rfl) ?_)
  repeat' (first | with_reducible rfl | ((conv => whnf); first | refine And.intro ?_ ?_ | (intro h; first | with_reducible exact tf_no h | with_reducible exact ft_no h | exact Bool.noConfusion h | with_reducible exact h | (exfalso; exact bt_x hT h) | (exfalso; exact bt_x c1 h) | (exfalso; exact bt_x c2 h) | (exfalso; exact bt_x c3 h) | (exfalso; exact bt_x b4 h) | (have ht : true = true := h; clear ht h) | skip) | ((with_reducible refine SCall.mark ?_); first | refine SCall.data (hA) rfl rfl ?_ | refine SCall.scal (hA) rfl rfl ?_ | refine SCall.data (hB) rfl rfl ?_ | refine SCall.scal (hB) rfl rfl ?_ | refine SCall.data (hf) rfl rfl ?_ | refine SCall.scal (hf) rfl rfl ?_ | refine SCall.data (hl) rfl rfl ?_ | refine SCall.scal (hl) rfl rfl ?_) | ((with_reducible refine PCall.mark ?_); first | refine PCall.mk (hA) rfl rfl ?_ | refine PCall.mk (hB) rfl rfl ?_ | refine PCall.mk (hf) rfl rfl ?_ | refine PCall.mk (hl) rfl rfl ?_) | ((with_reducible refine GCall.mark ?_); first | refine GCall.data (fun _ => hA) rfl rfl ?_ | refine GCall.scal (fun _ => hA) rfl rfl ?_ | refine GCall.data (fun _ => hB) rfl rfl ?_ | refine GCall.scal (fun _ => hB) rfl rfl ?_ | refine GCall.data (fun _ => hf) rfl rfl ?_ | refine GCall.scal (fun _ => hf) rfl rfl ?_ | refine GCall.data (fun _ => hl) rfl rfl ?_ | refine GCall.scal (fun _ => hl) rfl rfl ?_) | ((with_reducible refine MCall.mark ?_); first | refine MCall.data (fun _ => hA) rfl rfl ?_ | refine MCall.plain (PCall.mk (hA) rfl rfl ?_) | refine MCall.data (fun _ => hB) rfl rfl ?_ | refine MCall.plain (PCall.mk (hB) rfl rfl ?_) | refine MCall.data (fun _ => hf) rfl rfl ?_ | refine MCall.plain (PCall.mk (hf) rfl rfl ?_) | refine MCall.data (fun _ => hl) rfl rfl ?_ | refine MCall.plain (PCall.mk (hl) rfl rfl ?_)) | ((with_reducible refine Tri.mark ?_); first | (refine Tri.treeX [0] (MX.mv 0 0 (MX.mv 0 1 (MX.mv 2 2 (MX.mv 0 3 (MX.mv 0 6 (MX.mv 1 4 (MX.mv 2 5 (MX.mv 0 7 (MX.mv 0 8 (MX.mv 1 9 (MX.mv 1 10 MX.done))))))))))) ?_ (by kernel_rfl) ?_; rfl)) | ((with_reducible refine ECall.mark ?_); first | refine ECall.alt (strV (lineC ⟨pathA s, true, wasA s, true, isA s⟩)) (fun _ => SCall.data hl rfl rfl ?_) ?_ | refine ECall.only ?_ (fun h => nomatch h) | refine ECall.only ?_ ?_) | ((with_reducible refine Drawn.mark ?_); first | refine Drawn.quiet (by kernel_rfl) ?_) | refine dloadE_map (ch0) ?_ ?_ | refine dcell_ok rfl ?_ | refine AppC.new ?_))
  all_goals try first | ((with_reducible show Option.isSome (slElem _ _) = true); kernel_rfl) | ((with_reducible show slElem _ _ = some _); kernel_rfl) | ((with_reducible refine enters_mark ?_); kernel_rfl) | (with_reducible assumption) | ((with_reducible show List.all _ DV.one = true); rfl) | ((with_reducible show (_ : Nat) = _); rfl) | ((with_reducible show (_ == true) = true); first | (simp; done) | simpa using h) | ((with_reducible show (_ : Nat) ≤ _); exact Nat.le_of_ble_eq_true rfl) | ((with_reducible show (_ : Int) ≤ _); first | omega | decide) | ((with_reducible show (_ : Int) < _); first | omega | decide) | ((with_reducible show (_ : Nat) < _); omega) | ((with_reducible show (_ : Nat) ≤ _); omega)
  all_goals try (first | ((with_reducible show (_ : Nat) < List.length _); exact lt3 _ _ _ (by decide)) | ((with_reducible show isStr _ _ = true); kernel_rfl) | (with_reducible exact tnb h) | (exact hrs; done) | ((with_reducible show Option.all _ _ = true); rfl))
  repeat' (first | with_reducible rfl | ((conv => whnf); first | refine And.intro ?_ ?_ | (intro h; first | with_reducible exact tf_no h | with_reducible exact ft_no h | exact Bool.noConfusion h | with_reducible exact h | (have ht : true = true := h; clear ht h) | skip) | ((with_reducible refine ECall.mark ?_); first | refine ECall.only ?_ (fun h => nomatch h) | refine ECall.only ?_ ?_) | ((with_reducible refine Drawn.mark ?_); first | refine Drawn.quiet (by kernel_rfl) ?_) | refine dloadE_map (ch0) ?_ ?_ | refine dcell_ok rfl ?_ | refine AppC.new ?_))
  all_goals (conv => whnf)
  all_goals exact Tells.of (congrArg rdV (rd_4 b0 b1 b2 b3 b4)) (Tells.mk (DW.tupl (DWl.cons (DW.aggl (DWl.cons (DW.same _ rfl) (DWl.cons (DW.same _ rfl) (DWl.cons (DW.same _ rfl) (DWl.cons (DW.same _ rfl) (DWl.cons (DW.same _ rfl) DWl.nil)))))) (DWl.cons (DW.same _ rfl) DWl.nil))))
set_option maxRecDepth 100000 in
set_option maxHeartbeats 600000 in
theorem read40_5 (s : ByteArray) (hs : s.size ≤ 1600000) (b0 : badA s = false) (b1 : (headA s == plusB) = false) (b2 : (headA s == minusB) = false) (b3 : (headA s == wavB) = false) : DPure Tryz.prog 40 [strV s] (rdV (readC s)) := by
  have hz := szs_of hs
  have c1 : ((restA s).extract (Int.toNat 0) (Int.toNat 2) == (⟨#[43, 32]⟩ : ByteArray)) = false := b1
  have c2 : ((restA s).extract (Int.toNat 0) (Int.toNat 2) == (⟨#[45, 32]⟩ : ByteArray)) = false := b2
  have c3 : ((restA s).extract (Int.toNat 0) (Int.toNat 2) == (⟨#[126, 32]⟩ : ByteArray)) = false := b3
  have hA := cutA_D s hs
  have hB := cutB_D s hs
  have hT : (bif !(cutT s isB).2.2 then true else decide (((restA s).size : Int) < 2)) = false := b0
  have hrs := bad_sz b0
  refine DFun.data (DFun.body Tryz.func40 rfl (by kernel_rfl) ?_)
  repeat' (first | with_reducible rfl | ((conv => whnf); first | refine And.intro ?_ ?_ | (intro h; first | with_reducible exact tf_no h | with_reducible exact ft_no h | exact Bool.noConfusion h | with_reducible exact h | (exfalso; exact bt_x hT h) | (exfalso; exact bt_x c1 h) | (exfalso; exact bt_x c2 h) | (exfalso; exact bt_x c3 h) | (have ht : true = true := h; clear ht h) | skip) | ((with_reducible refine SCall.mark ?_); first | refine SCall.data (hA) rfl rfl ?_ | refine SCall.scal (hA) rfl rfl ?_ | refine SCall.data (hB) rfl rfl ?_ | refine SCall.scal (hB) rfl rfl ?_) | ((with_reducible refine PCall.mark ?_); first | refine PCall.mk (hA) rfl rfl ?_ | refine PCall.mk (hB) rfl rfl ?_) | ((with_reducible refine GCall.mark ?_); first | refine GCall.data (fun _ => hA) rfl rfl ?_ | refine GCall.scal (fun _ => hA) rfl rfl ?_ | refine GCall.data (fun _ => hB) rfl rfl ?_ | refine GCall.scal (fun _ => hB) rfl rfl ?_) | ((with_reducible refine MCall.mark ?_); first | refine MCall.data (fun _ => hA) rfl rfl ?_ | refine MCall.plain (PCall.mk (hA) rfl rfl ?_) | refine MCall.data (fun _ => hB) rfl rfl ?_ | refine MCall.plain (PCall.mk (hB) rfl rfl ?_)) | ((with_reducible refine ECall.mark ?_); first | refine ECall.only ?_ (fun h => nomatch h) | refine ECall.only ?_ ?_) | ((with_reducible refine Drawn.mark ?_); first | refine Drawn.quiet (by kernel_rfl) ?_) | refine dloadE_map (ch0) ?_ ?_ | refine dcell_ok rfl ?_ | refine AppC.new ?_))
  all_goals try first | ((with_reducible show Option.isSome (slElem _ _) = true); kernel_rfl) | ((with_reducible show slElem _ _ = some _); kernel_rfl) | ((with_reducible refine enters_mark ?_); kernel_rfl) | (with_reducible assumption) | ((with_reducible show List.all _ DV.one = true); rfl) | ((with_reducible show (_ : Nat) = _); rfl) | ((with_reducible show (_ == true) = true); first | (simp; done) | simpa using h) | ((with_reducible show (_ : Nat) ≤ _); exact Nat.le_of_ble_eq_true rfl) | ((with_reducible show (_ : Int) ≤ _); first | omega | decide) | ((with_reducible show (_ : Int) < _); first | omega | decide) | ((with_reducible show (_ : Nat) < _); omega) | ((with_reducible show (_ : Nat) ≤ _); omega)
  all_goals try (first | ((with_reducible show (_ : Nat) < List.length _); exact lt3 _ _ _ (by decide)) | ((with_reducible show isStr _ _ = true); kernel_rfl) | (with_reducible exact tnb h) | (exact hrs; done) | ((with_reducible show Option.all _ _ = true); rfl))
  repeat' (first | with_reducible rfl | ((conv => whnf); first | refine And.intro ?_ ?_ | (intro h; first | with_reducible exact tf_no h | with_reducible exact ft_no h | exact Bool.noConfusion h | with_reducible exact h | (have ht : true = true := h; clear ht h) | skip) | ((with_reducible refine ECall.mark ?_); first | refine ECall.only ?_ (fun h => nomatch h) | refine ECall.only ?_ ?_) | ((with_reducible refine Drawn.mark ?_); first | refine Drawn.quiet (by kernel_rfl) ?_) | refine dloadE_map (ch0) ?_ ?_ | refine dcell_ok rfl ?_ | refine AppC.new ?_))
  all_goals (conv => whnf)
  all_goals exact Tells.of (congrArg rdV (rd_5 b0 b1 b2 b3)) (Tells.mk (DW.tupl (DWl.cons (DW.aggl (DWl.cons (DW.same _ rfl) (DWl.cons (DW.same _ rfl) (DWl.cons (DW.same _ rfl) (DWl.cons (DW.same _ rfl) (DWl.cons (DW.same _ rfl) DWl.nil)))))) (DWl.cons (DW.same _ rfl) DWl.nil))))
theorem read40_D (s : ByteArray) (hs : s.size ≤ 1600000) : DPure Tryz.prog 40 [strV s] (rdV (readC s)) := by
  by_cases b0 : badA s = true
  · exact read40_0 s hs b0
  · have b0 := eq_false_of_ne_true b0
    by_cases b1 : (headA s == plusB) = true
    · exact read40_1 s hs b0 b1
    · have b1 := eq_false_of_ne_true b1
      by_cases b2 : (headA s == minusB) = true
      · exact read40_2 s hs b0 b1 b2
      · have b2 := eq_false_of_ne_true b2
        by_cases b3 : (headA s == wavB) = true
        · by_cases b4 : (!(cutT (saidA s) toB).2.2) = true
          · exact read40_3 s hs b0 b1 b2 b3 b4
          · exact read40_4 s hs b0 b1 b2 b3 (eq_false_of_ne_true b4)
        · exact read40_5 s hs b0 b1 b2 (eq_false_of_ne_true b3)
end Go.Proofs.YtagfmppjlfhmeaaGreatDoor

namespace Go.Proofs.YtagfmppjlfhmeaaGreatDoor
open Go.RowKit Go.Dl
attribute [local irreducible] Tri SCall TSem ECall Drawn DFun QSem PSem PCall GCall MCall Round Weak dloadE OW DWl Tells IntKind.wrap Retold ESem
def lineOf (t : ByteArray) : ByteArray := (cutT t nlB).1
def restOf (t : ByteArray) : ByteArray := (cutT t nlB).2.1
def endOf (t : ByteArray) : Bool := (cutT t nlB).2.2
def lowB (o : List Ch) (c : Ch) : Bool := bif decide (0 < (o.length : Int)) then !ltB (o.getD (o.length - 1) ch0).p c.p else false
def parN : Nat → ByteArray → List Ch → List Ch × Int × Int
  | 0, _, o => (o, 0, 0)
  | n + 1, t, o => bif t != emB then
      (bif (bif !(readC (lineOf t)).2 then true else !endOf t) then ([], ((o.length + 1 : Nat) : Int), 20)
      else bif lowB o (readC (lineOf t)).1 then ([], ((o.length + 1 : Nat) : Int), 54)
      else parN n (restOf t) (o ++ [(readC (lineOf t)).1]))
    else (o, 0, 0)
def parseT (t : ByteArray) : List Ch × Int × Int := parN (t.size + 1) t []
theorem rest_sz {t : ByteArray} (h : t ≠ emB) : (restOf t).size < t.size := by
  have h0 : 0 < t.size := Nat.pos_of_ne_zero fun e => h (ba_nil e)
  unfold restOf cutT
  rw [bs_size, ← ba_len t]
  unfold Lib.cut
  split
  · rename_i hi
    have := Lib.index_room t.data.toList nlB.data.toList hi
    simp only [List.length_drop] at this ⊢
    have e : nlB.data.toList.length = 1 := rfl
    rw [e] at this ⊢
    omega
  · rw [ba_len]; exact h0
structure Pi where
  n : Nat
  t : ByteArray
  o : List Ch
theorem rc_nil : rowC [] = [] := rfl
def PiI (t0 : ByteArray) (i : Pi) : Prop := i.t.size < i.n ∧ i.o.length + i.t.size ≤ t0.size ∧ parN i.n i.t i.o = parseT t0
def piSt (i : Pi) : St := ⟨0, tmOf [(0, strV i.t), (3, .ref 0 0), (4, .arr 2 i.o.length), (5, .ref 1 0), (6, int1 ((i.o.length + 1 : Nat) : Int))], .of [(0, ⟨38, 2, [int1 0, int1 0]⟩), (1, ⟨38, 2, [int1 0, int1 0]⟩), (2, ⟨56, 5, rowC i.o⟩)] 3⟩
theorem cut10_D (t : ByteArray) (h : t.size ≤ 1600000) : DPure Tryz.prog 39 [strV t, strV nlB] (.tup [strV (lineOf t), strV (restOf t), bl (endOf t)]) := cut39_D t nlB (by omega)
theorem line_of (t : ByteArray) : (lineOf t).size ≤ t.size := (cut_sz t nlB).1
def ptV (r : List Ch × Int × Int) : DV := .tup [chs r.1, .agg [int1 r.2.1, int1 r.2.2]]
theorem pn_end {n : Nat} {t : ByteArray} {o : List Ch} (hn : t.size < n) (h : (t != emB) = false) : parN n t o = (o, 0, 0) := by
  obtain ⟨m, rfl⟩ : ∃ m, n = m + 1 := ⟨n - 1, by omega⟩
  rw [parN, h]; rfl
theorem pn_bad {n : Nat} {t : ByteArray} {o : List Ch} (hn : t.size < n) (h : (t != emB) = true) (h2 : (bif !(readC (lineOf t)).2 then true else !endOf t) = true) : parN n t o = ([], ((o.length + 1 : Nat) : Int), 20) := by
  obtain ⟨m, rfl⟩ : ∃ m, n = m + 1 := ⟨n - 1, by omega⟩
  rw [parN, h, h2]; rfl
theorem pn_low {n : Nat} {t : ByteArray} {o : List Ch} (hn : t.size < n) (h : (t != emB) = true) (h2 : (bif !(readC (lineOf t)).2 then true else !endOf t) = false) (h3 : lowB o (readC (lineOf t)).1 = true) : parN n t o = ([], ((o.length + 1 : Nat) : Int), 54) := by
  obtain ⟨m, rfl⟩ : ∃ m, n = m + 1 := ⟨n - 1, by omega⟩
  rw [parN, h, h2, h3]; rfl
theorem pn_next {n : Nat} {t : ByteArray} {o : List Ch} (hn : t.size < n) (h : (t != emB) = true) (h2 : (bif !(readC (lineOf t)).2 then true else !endOf t) = false) (h3 : lowB o (readC (lineOf t)).1 = false) : parN n t o = parN (n - 1) (restOf t) (o ++ [(readC (lineOf t)).1]) := by
  obtain ⟨m, rfl⟩ : ∃ m, n = m + 1 := ⟨n - 1, by omega⟩
  rw [parN, h, h2, h3]; rfl
theorem row_get {o : List Ch} {m : Nat} (h : m < o.length) : (rowC o)[m * 5]? = some (strV (o.getD m ch0).p) := by
  induction o generalizing m with
  | nil => cases h
  | cons a o ih =>
    rw [rowC_cons]
    rcases m with _ | m
    · rfl
    · rw [List.getElem?_append_right (by show 5 ≤ _; omega), show (m + 1) * 5 - (chD a).length = m * 5 by show (m + 1) * 5 - 5 = _; omega, ih (by simpa using h)]; rfl
theorem gx1 {b : Bool} {Q : Prop} (k : b = false) (h : (b == true) = true) : Q := by rw [k] at h; cases h
theorem lt2 {α : Type} {i : Nat} (a b : α) (h : i < 2) : i < [a, b].length := h
theorem lp_1 {o : List Ch} (h : o.length ≤ 1600000) (hp : 0 < o.length) : 0 ≤ IntKind.i64.wrap (((o.length : Nat) : Int) - 1) := by
  rw [wpred (by omega) (by omega)]; omega
theorem lp_2 {o : List Ch} (h : o.length ≤ 1600000) (hp : 0 < o.length) : IntKind.i64.wrap (((o.length : Nat) : Int) - 1) < ((o.length : Nat) : Int) := by
  rw [wpred (by omega) (by omega)]; omega
theorem row_gt {o : List Ch} (h : o.length ≤ 1600000) (hp : 0 < o.length) : (rowC o)[(IntKind.i64.wrap (((o.length : Nat) : Int) - 1)).toNat * 5]? = some (strV (o.getD (o.length - 1) ch0).p) := by
  rw [wpred (by omega) (by omega), Int.toNat_natCast]; exact row_get (by omega)
theorem wpush1 {o : List Ch} {x : Ch} (h : o.length ≤ 1600000) : IntKind.i64.wrap (((o.length + 1 : Nat) : Int) + 1) = (((o ++ [x]).length + 1 : Nat) : Int) := by
  rw [wsucc (n := 2000000) (by omega) (by omega), List.length_append]; rfl
attribute [local irreducible] readC lineOf restOf endOf parN rowC ByteArray.extract cutT
set_option maxRecDepth 100000 in
set_option maxHeartbeats 2000000 in
theorem parse15_D (t0 : ByteArray) (ht : t0.size ≤ 1600000) : DPure Tryz.prog 15 [strV t0] (ptV (parseT t0)) := by
  refine DFun.data (DFun.body Tryz.func15 rfl (by kernel_rfl) ?_)
  repeat' (first | with_reducible rfl | ((conv => whnf); first | refine And.intro ?_ ?_ | (intro h; first | with_reducible exact tf_no h | with_reducible exact ft_no h | exact Bool.noConfusion h | with_reducible exact h | (have ht : true = true := h; clear ht h) | skip) | ((with_reducible refine ECall.mark ?_); first | refine ECall.only ?_ (fun h => nomatch h) | refine ECall.only ?_ ?_) | ((with_reducible refine Drawn.mark ?_); first | refine Drawn.quiet (by kernel_rfl) ?_) | refine dloadE_map (ch0) ?_ ?_ | refine dcell_ok rfl ?_ | refine AppC.new ?_))
  all_goals first | (with_reducible refine enters_mark ?_; kernel_rfl) | (with_reducible refine boolT_mark ?_; kernel_rfl) | rfl | trivial | assumption | exact Nat.le_of_ble_eq_true rfl | (show entersB _ _ = true; kernel_rfl) | exact DW.same _ rfl | exact DW.ref _ _ _ rfl | exact DW.arr _ _ _ rfl | refine DW.int ?_ | refine dvb ?_ | refine dvi ?_ | exact OW.cells rfl rfl (DWl.same rfl) | exact Nat.zero_le _ | omega | skip
  all_goals repeat' (first | refine OW.cells rfl rfl ?_ | exact DW.nilArr _ rfl | refine DWl.cons ?_ ?_ | exact DWl.nil | exact DW.same _ rfl | exact DW.ref _ _ _ rfl | exact DW.arr _ _ _ rfl | exact DW.sub _ _ _ _ rfl | exact DW.mo _ _ rfl | exact DW.nilLst _ | refine DW.aggl ?_ | refine DW.tupl ?_ | refine DW.clol ?_ ?_)
  all_goals try ((conv => whnf); with_reducible first | refine Round.mark ?_ | refine Tells.mark ?_ | refine Retold.mark ?_)
  all_goals try first | (show (_ : Bool) = _; simp_all; done) | (show (_ : Int) < _; simp at *; omega) | (show (_ : Int) ≤ _; simp at *; omega) | (show (_ : Nat) < _; simp at *; omega) | (show (_ : Nat) ≤ _; simp at *; omega)
  conv => whnf
  refine Tri.scope (by kernel_rfl) ?_
  repeat' (first | with_reducible rfl | ((conv => whnf); first | refine And.intro ?_ ?_ | (intro h; first | with_reducible exact tf_no h | with_reducible exact ft_no h | exact Bool.noConfusion h | with_reducible exact h | (have ht : true = true := h; clear ht h) | skip) | ((with_reducible refine ECall.mark ?_); first | refine ECall.only ?_ (fun h => nomatch h) | refine ECall.only ?_ ?_) | ((with_reducible refine Drawn.mark ?_); first | refine Drawn.quiet (by kernel_rfl) ?_) | refine dloadE_map (ch0) ?_ ?_ | refine dcell_ok rfl ?_ | refine AppC.new ?_))
  all_goals first | (with_reducible refine enters_mark ?_; kernel_rfl) | (with_reducible refine boolT_mark ?_; kernel_rfl) | rfl | trivial | assumption | exact Nat.le_of_ble_eq_true rfl | (show entersB _ _ = true; kernel_rfl) | exact DW.same _ rfl | exact DW.ref _ _ _ rfl | exact DW.arr _ _ _ rfl | refine DW.int ?_ | refine dvb ?_ | refine dvi ?_ | exact OW.cells rfl rfl (DWl.same rfl) | exact Nat.zero_le _ | omega | skip
  all_goals repeat' (first | refine OW.cells rfl rfl ?_ | exact DW.nilArr _ rfl | refine DWl.cons ?_ ?_ | exact DWl.nil | exact DW.same _ rfl | exact DW.ref _ _ _ rfl | exact DW.arr _ _ _ rfl | exact DW.sub _ _ _ _ rfl | exact DW.mo _ _ rfl | exact DW.nilLst _ | refine DW.aggl ?_ | refine DW.tupl ?_ | refine DW.clol ?_ ?_)
  all_goals try ((conv => whnf); with_reducible first | refine Round.mark ?_ | refine Tells.mark ?_ | refine Retold.mark ?_)
  all_goals try first | (show (_ : Bool) = _; simp_all; done) | (show (_ : Int) < _; simp at *; omega) | (show (_ : Int) ≤ _; simp at *; omega) | (show (_ : Nat) < _; simp at *; omega) | (show (_ : Nat) ≤ _; simp at *; omega)
  conv => whnf
  refine Tri.loop piSt (PiI t0) (fun i => i.n) ⟨t0.size + 1, t0, []⟩ (by kernel_rfl) (Weak.list [(0, some 0), (1, some 1), (2, none)] [] (by kernel_rfl) ?_ ?_) ⟨Nat.lt_succ_self _, by show 0 + t0.size ≤ _; omega, rfl⟩ ?_
  iterate 2 · repeat' (first | exact DW.nilArr _ rfl | exact rc_nil | exact DW.same _ rfl | exact DW.ref _ _ _ rfl | exact DW.arr _ _ _ rfl | exact OW.cells rfl rfl (DWl.same rfl) | refine OW.cells rfl rfl ?_ | refine DWl.cons ?_ ?_ | exact DWl.nil | exact DW.nilArr _ rfl | exact DW.nilLst _ | refine DW.clol ?_ ?_ | refine DW.aggl ?_ | refine DW.tupl ?_ | refine DW.int ?_ | refine DW.bool ?_ | refine DW.str ?_ | refine DW.arrE rfl ?_ | ((conv => whnf); first | refine And.intro ?_ ?_ | trivial))
  intro i hi
  obtain ⟨n, t, o⟩ := i
  obtain ⟨hi1, hi2, hi3⟩ := hi
  simp only at hi1 hi2 hi3
  have hts : t.size ≤ 1600000 := by omega
  have hol1 : o.length ≤ 1600000 := by omega
  have hol : o.length ≤ 8388608 := by omega
  have hc := cut10_D t hts
  have hr := read40_D (lineOf t) (Nat.le_trans (line_of t) hts)
  show dcode _ _ _ _ (piSt ⟨n, t, o⟩) _
  by_cases h0 : (t != emB) = true
  · by_cases h1 : (bif !(readC (lineOf t)).2 then true else !endOf t) = true
    · have e : parseT t0 = ([], ((o.length + 1 : Nat) : Int), 20) := by rw [← hi3, pn_bad hi1 h0 h1]
      repeat' (first | with_reducible rfl | ((conv => whnf); first | refine And.intro ?_ ?_ | (intro h; first | with_reducible exact tf_no h | with_reducible exact ft_no h | exact Bool.noConfusion h | with_reducible exact h | (exfalso; exact bt_x h0 h) | (exfalso; exact bt_x h1 h) | (have ht : true = true := h; clear ht h) | skip) | ((with_reducible refine SCall.mark ?_); first | refine SCall.data (hc) rfl rfl ?_ | refine SCall.scal (hc) rfl rfl ?_ | refine SCall.data (hr) rfl rfl ?_ | refine SCall.scal (hr) rfl rfl ?_) | ((with_reducible refine PCall.mark ?_); first | refine PCall.mk (hc) rfl rfl ?_ | refine PCall.mk (hr) rfl rfl ?_) | ((with_reducible refine GCall.mark ?_); first | refine GCall.data (fun _ => hc) rfl rfl ?_ | refine GCall.scal (fun _ => hc) rfl rfl ?_ | refine GCall.data (fun _ => hr) rfl rfl ?_ | refine GCall.scal (fun _ => hr) rfl rfl ?_) | ((with_reducible refine MCall.mark ?_); first | refine MCall.data (fun _ => hc) rfl rfl ?_ | refine MCall.plain (PCall.mk (hc) rfl rfl ?_) | refine MCall.data (fun _ => hr) rfl rfl ?_ | refine MCall.plain (PCall.mk (hr) rfl rfl ?_)) | ((with_reducible refine Tri.mark ?_); first | (refine Tri.treeX [0] (MX.mv 0 0 (MX.mv 0 1 (MX.mv 1 2 MX.done))) ?_ (by kernel_rfl) ?_; rfl) | (refine Tri.treeX [0] (MX.mv 0 0 (MX.mv 0 1 (MX.mv 0 2 (MX.mv 1 3 MX.done)))) ?_ (by kernel_rfl) ?_; rfl)) | ((with_reducible refine ECall.mark ?_); first | refine ECall.only ?_ (fun h => nomatch h) | refine ECall.only ?_ ?_) | ((with_reducible refine Drawn.mark ?_); first | refine Drawn.quiet (by kernel_rfl) ?_) | refine dloadE_map (ch0) ?_ ?_ | refine dcell_ok rfl ?_ | refine AppC.new ?_))
      all_goals try first | ((with_reducible show Option.isSome (slElem _ _) = true); kernel_rfl) | ((with_reducible show slElem _ _ = some _); kernel_rfl) | ((with_reducible refine enters_mark ?_); kernel_rfl) | (with_reducible assumption) | ((with_reducible show List.all _ DV.one = true); rfl) | ((with_reducible show (_ : Nat) = _); rfl) | ((with_reducible show (_ == true) = true); first | (simp; done) | simpa using h) | ((with_reducible show (_ : Nat) ≤ _); exact Nat.le_of_ble_eq_true rfl) | ((with_reducible show (_ : Int) ≤ _); first | omega | decide) | ((with_reducible show (_ : Int) < _); first | omega | decide) | ((with_reducible show (_ : Nat) < _); omega) | ((with_reducible show (_ : Nat) ≤ _); omega)
      all_goals try (first | ((with_reducible show (_ : Nat) < List.length [_, _, _]); exact lt3 _ _ _ (by decide)) | ((with_reducible show (_ : Nat) < List.length [_, _]); exact lt2 _ _ (by decide)) | ((with_reducible show isStr _ _ = true); kernel_rfl) | (with_reducible exact tnb h) | ((with_reducible show Option.all _ _ = true); rfl))
      repeat' (first | with_reducible rfl | ((conv => whnf); first | refine And.intro ?_ ?_ | (intro h; first | with_reducible exact tf_no h | with_reducible exact ft_no h | exact Bool.noConfusion h | with_reducible exact h | (have ht : true = true := h; clear ht h) | skip) | ((with_reducible refine ECall.mark ?_); first | refine ECall.only ?_ (fun h => nomatch h) | refine ECall.only ?_ ?_) | ((with_reducible refine Drawn.mark ?_); first | refine Drawn.quiet (by kernel_rfl) ?_) | refine dloadE_map (ch0) ?_ ?_ | refine dcell_ok rfl ?_ | refine AppC.new ?_))
      all_goals (conv => whnf)
      all_goals exact Tells.of (congrArg ptV e) (Tells.mk (DW.tupl (DWl.cons (DW.nilLst _) (DWl.cons (DW.aggl (DWl.cons (DW.same _ rfl) (DWl.cons (DW.same _ rfl) DWl.nil))) DWl.nil))))
    · have h1 := eq_false_of_ne_true h1
      by_cases hp : 0 < o.length
      · skip
        have hdp : decide (0 < ((o.length : Nat) : Int)) = true := decide_eq_true (by omega)
        by_cases h2 : lowB o (readC (lineOf t)).1 = true
        · have e : parseT t0 = ([], ((o.length + 1 : Nat) : Int), 54) := by rw [← hi3, pn_low hi1 h0 h1 h2]
          have hL : (bif decide (0 < ((o.length : Nat) : Int)) then !Op.bytesLess (o.getD (o.length - 1) ch0).p.toList (readC (lineOf t)).1.p.toList else false) = true := h2
          repeat' (first | with_reducible rfl | ((conv => whnf); first | refine And.intro ?_ ?_ | (intro h; first | with_reducible exact tf_no h | with_reducible exact ft_no h | exact Bool.noConfusion h | with_reducible exact h | (exfalso; exact bt_x h0 h) | (exfalso; exact bt_x h1 h) | (exfalso; exact bt_x hL h) | (have ht : true = true := h; clear ht h) | skip) | ((with_reducible refine SCall.mark ?_); first | refine SCall.data (hc) rfl rfl ?_ | refine SCall.scal (hc) rfl rfl ?_ | refine SCall.data (hr) rfl rfl ?_ | refine SCall.scal (hr) rfl rfl ?_) | ((with_reducible refine PCall.mark ?_); first | refine PCall.mk (hc) rfl rfl ?_ | refine PCall.mk (hr) rfl rfl ?_) | ((with_reducible refine GCall.mark ?_); first | refine GCall.data (fun _ => hc) rfl rfl ?_ | refine GCall.scal (fun _ => hc) rfl rfl ?_ | refine GCall.data (fun _ => hr) rfl rfl ?_ | refine GCall.scal (fun _ => hr) rfl rfl ?_) | ((with_reducible refine MCall.mark ?_); first | refine MCall.data (fun _ => hc) rfl rfl ?_ | refine MCall.plain (PCall.mk (hc) rfl rfl ?_) | refine MCall.data (fun _ => hr) rfl rfl ?_ | refine MCall.plain (PCall.mk (hr) rfl rfl ?_)) | ((with_reducible refine Tri.mark ?_); first | (refine Tri.treeX [0] (MX.mv 0 0 (MX.mv 0 1 (MX.mv 1 2 MX.done))) ?_ (by kernel_rfl) ?_; rfl) | (refine Tri.treeX [0] (MX.mv 0 0 (MX.mv 0 1 (MX.mv 0 2 (MX.mv 1 3 MX.done)))) ?_ (by kernel_rfl) ?_; rfl)) | ((with_reducible refine ECall.mark ?_); first | refine ECall.only ?_ (fun h => nomatch h) | refine ECall.only ?_ ?_) | ((with_reducible refine Drawn.mark ?_); first | refine Drawn.quiet (by kernel_rfl) ?_) | refine dloadE_map (ch0) ?_ ?_ | refine dcell_ok rfl ?_ | refine dcell_at (strV (o.getD (o.length - 1) ch0).p) (fun _ => row_gt hol1 hp) ?_ | refine dcell_ok rfl ?_ | refine AppC.new ?_))
          all_goals try first | ((with_reducible show Option.isSome (slElem _ _) = true); kernel_rfl) | ((with_reducible show slElem _ _ = some _); kernel_rfl) | ((with_reducible refine enters_mark ?_); kernel_rfl) | (with_reducible assumption) | ((with_reducible show List.all _ DV.one = true); rfl) | ((with_reducible show (_ : Nat) = _); rfl) | ((with_reducible show (_ == true) = true); first | (simp; done) | simpa using h) | ((with_reducible show (_ : Nat) ≤ _); exact Nat.le_of_ble_eq_true rfl) | ((with_reducible show (_ : Int) ≤ _); first | omega | decide) | ((with_reducible show (_ : Int) < _); first | omega | decide) | ((with_reducible show (_ : Nat) < _); omega) | ((with_reducible show (_ : Nat) ≤ _); omega)
          all_goals try (first | ((with_reducible show (_ : Nat) < List.length [_, _, _]); exact lt3 _ _ _ (by decide)) | ((with_reducible show (_ : Nat) < List.length [_, _]); exact lt2 _ _ (by decide)) | ((with_reducible show isStr _ _ = true); kernel_rfl) | (with_reducible exact tnb h) | ((with_reducible show Option.all _ _ = true); rfl) | (exact lp_1 hol1 hp; done) | (exact lp_2 hol1 hp; done) | (exact gp1 hdp; done) | ((with_reducible show (_ + 1) * _ ≤ _); exact rc_b2 hol) | ((with_reducible show _ + 1 ≤ maxLen); exact rc_b3 hol) | (exact rc_b1 o; done))
          repeat' (first | with_reducible rfl | ((conv => whnf); first | refine And.intro ?_ ?_ | (intro h; first | with_reducible exact tf_no h | with_reducible exact ft_no h | exact Bool.noConfusion h | with_reducible exact h | (have ht : true = true := h; clear ht h) | skip) | ((with_reducible refine ECall.mark ?_); first | refine ECall.only ?_ (fun h => nomatch h) | refine ECall.only ?_ ?_) | ((with_reducible refine Drawn.mark ?_); first | refine Drawn.quiet (by kernel_rfl) ?_) | refine dloadE_map (ch0) ?_ ?_ | refine dcell_ok rfl ?_ | refine AppC.new ?_))
          all_goals (conv => whnf)
          all_goals exact Tells.of (congrArg ptV e) (Tells.mk (DW.tupl (DWl.cons (DW.nilLst _) (DWl.cons (DW.aggl (DWl.cons (DW.same _ rfl) (DWl.cons (DW.same _ rfl) DWl.nil))) DWl.nil))))
        · have h2 := eq_false_of_ne_true h2
          have hL : (bif decide (0 < ((o.length : Nat) : Int)) then !Op.bytesLess (o.getD (o.length - 1) ch0).p.toList (readC (lineOf t)).1.p.toList else false) = false := h2
          have hn := rest_sz (bne_iff.1 h0)
          repeat' (first | with_reducible rfl | ((conv => whnf); first | refine And.intro ?_ ?_ | (intro h; first | with_reducible exact tf_no h | with_reducible exact ft_no h | exact Bool.noConfusion h | with_reducible exact h | (exfalso; exact bt_x h0 h) | (exfalso; exact bt_x h1 h) | (exfalso; exact bt_x hL h) | (have ht : true = true := h; clear ht h) | skip) | ((with_reducible refine SCall.mark ?_); first | refine SCall.data (hc) rfl rfl ?_ | refine SCall.scal (hc) rfl rfl ?_ | refine SCall.data (hr) rfl rfl ?_ | refine SCall.scal (hr) rfl rfl ?_) | ((with_reducible refine PCall.mark ?_); first | refine PCall.mk (hc) rfl rfl ?_ | refine PCall.mk (hr) rfl rfl ?_) | ((with_reducible refine GCall.mark ?_); first | refine GCall.data (fun _ => hc) rfl rfl ?_ | refine GCall.scal (fun _ => hc) rfl rfl ?_ | refine GCall.data (fun _ => hr) rfl rfl ?_ | refine GCall.scal (fun _ => hr) rfl rfl ?_) | ((with_reducible refine MCall.mark ?_); first | refine MCall.data (fun _ => hc) rfl rfl ?_ | refine MCall.plain (PCall.mk (hc) rfl rfl ?_) | refine MCall.data (fun _ => hr) rfl rfl ?_ | refine MCall.plain (PCall.mk (hr) rfl rfl ?_)) | ((with_reducible refine Tri.mark ?_); first | (refine Tri.treeX [0] (MX.mv 0 0 (MX.mv 0 1 (MX.mv 1 2 MX.done))) ?_ (by kernel_rfl) ?_; rfl) | (refine Tri.treeX [0] (MX.mv 0 0 (MX.mv 0 1 (MX.mv 0 2 (MX.mv 1 3 MX.done)))) ?_ (by kernel_rfl) ?_; rfl)) | ((with_reducible refine ECall.mark ?_); first | refine ECall.only ?_ (fun h => nomatch h) | refine ECall.only ?_ ?_) | ((with_reducible refine Drawn.mark ?_); first | refine Drawn.quiet (by kernel_rfl) ?_) | refine dloadE_map (ch0) ?_ ?_ | refine dcell_ok rfl ?_ | refine dcell_at (strV (o.getD (o.length - 1) ch0).p) (fun _ => row_gt hol1 hp) ?_ | refine dcell_ok rfl ?_ | refine AppC.new ?_))
          all_goals try ((conv => whnf); with_reducible refine Round.mark ?_)
          all_goals try first | ((with_reducible show Option.isSome (slElem _ _) = true); kernel_rfl) | ((with_reducible show slElem _ _ = some _); kernel_rfl) | ((with_reducible refine enters_mark ?_); kernel_rfl) | (with_reducible assumption) | ((with_reducible show List.all _ DV.one = true); rfl) | ((with_reducible show (_ : Nat) = _); rfl) | ((with_reducible show (_ == true) = true); first | (simp; done) | simpa using h) | ((with_reducible show (_ : Nat) ≤ _); exact Nat.le_of_ble_eq_true rfl) | ((with_reducible show (_ : Int) ≤ _); first | omega | decide) | ((with_reducible show (_ : Int) < _); first | omega | decide) | ((with_reducible show (_ : Nat) < _); omega) | ((with_reducible show (_ : Nat) ≤ _); omega)
          all_goals try (first | ((with_reducible show (_ : Nat) < List.length [_, _, _]); exact lt3 _ _ _ (by decide)) | ((with_reducible show (_ : Nat) < List.length [_, _]); exact lt2 _ _ (by decide)) | ((with_reducible show isStr _ _ = true); kernel_rfl) | (with_reducible exact tnb h) | ((with_reducible show Option.all _ _ = true); rfl) | (exact lp_1 hol1 hp; done) | (exact lp_2 hol1 hp; done) | (exact gp1 hdp; done) | ((with_reducible show (_ + 1) * _ ≤ _); exact rc_b2 hol) | ((with_reducible show _ + 1 ≤ maxLen); exact rc_b3 hol) | (exact rc_b1 o; done))
          refine Round.go (fun _ => Pi.mk (n - 1) (restOf t) (o ++ [(readC (lineOf t)).1])) ?_ ?_ (Weak.list [(0, some 0), (1, some 1), (2, some 5)] [] (by kernel_rfl) ?_ ?_)
          · exact ⟨by show (restOf t).size < n - 1; omega, by show (o ++ [_]).length + (restOf t).size ≤ _; simp only [List.length_append, List.length_cons, List.length_nil]; omega, by show parN (n - 1) (restOf t) (o ++ [_]) = _; rw [← hi3, pn_next hi1 h0 h1 h2]⟩
          · show n - 1 < n
            omega
          iterate 2 · repeat' (first | exact wpush1 hol1 | exact DW.arrE rfl (pushC _ _) | exact DWl.eq (rowC_push _ (readC (lineOf t)).1) (rowC_all _) | exact DW.same _ rfl | exact DW.ref _ _ _ rfl | exact DW.arr _ _ _ rfl | exact OW.cells rfl rfl (DWl.same rfl) | refine OW.cells rfl rfl ?_ | refine DWl.cons ?_ ?_ | exact DWl.nil | exact DW.nilArr _ rfl | exact DW.nilLst _ | refine DW.clol ?_ ?_ | refine DW.aggl ?_ | refine DW.tupl ?_ | refine DW.int ?_ | refine DW.bool ?_ | refine DW.str ?_ | refine DW.arrE rfl ?_ | ((conv => whnf); first | refine And.intro ?_ ?_ | trivial))
      · have hdp : decide (0 < ((o.length : Nat) : Int)) = false := decide_eq_false (by omega)
        have h2 : lowB o (readC (lineOf t)).1 = false := by unfold lowB; rw [hdp]; rfl
        have hL : (bif decide (0 < ((o.length : Nat) : Int)) then !Op.bytesLess emB.toList (readC (lineOf t)).1.p.toList else false) = false := by rw [hdp]; rfl
        have hn := rest_sz (bne_iff.1 h0)
        repeat' (first | with_reducible rfl | ((conv => whnf); first | refine And.intro ?_ ?_ | (intro h; first | with_reducible exact tf_no h | with_reducible exact ft_no h | exact Bool.noConfusion h | with_reducible exact h | (exfalso; exact bt_x h0 h) | (exfalso; exact bt_x h1 h) | (exfalso; exact bt_x hL h) | (have ht : true = true := h; clear ht h) | skip) | ((with_reducible refine SCall.mark ?_); first | refine SCall.data (hc) rfl rfl ?_ | refine SCall.scal (hc) rfl rfl ?_ | refine SCall.data (hr) rfl rfl ?_ | refine SCall.scal (hr) rfl rfl ?_) | ((with_reducible refine PCall.mark ?_); first | refine PCall.mk (hc) rfl rfl ?_ | refine PCall.mk (hr) rfl rfl ?_) | ((with_reducible refine GCall.mark ?_); first | refine GCall.data (fun _ => hc) rfl rfl ?_ | refine GCall.scal (fun _ => hc) rfl rfl ?_ | refine GCall.data (fun _ => hr) rfl rfl ?_ | refine GCall.scal (fun _ => hr) rfl rfl ?_) | ((with_reducible refine MCall.mark ?_); first | refine MCall.data (fun _ => hc) rfl rfl ?_ | refine MCall.plain (PCall.mk (hc) rfl rfl ?_) | refine MCall.data (fun _ => hr) rfl rfl ?_ | refine MCall.plain (PCall.mk (hr) rfl rfl ?_)) | ((with_reducible refine Tri.mark ?_); first | (refine Tri.treeX [0] (MX.mv 0 0 (MX.mv 0 1 (MX.mv 1 2 MX.done))) ?_ (by kernel_rfl) ?_; rfl) | (refine Tri.treeX [0] (MX.mv 0 0 (MX.mv 0 1 (MX.mv 0 2 (MX.mv 1 3 MX.done)))) ?_ (by kernel_rfl) ?_; rfl)) | ((with_reducible refine ECall.mark ?_); first | refine ECall.only ?_ (fun h => nomatch h) | refine ECall.only ?_ ?_) | ((with_reducible refine Drawn.mark ?_); first | refine Drawn.quiet (by kernel_rfl) ?_) | refine dloadE_map (ch0) ?_ ?_ | refine dcell_ok rfl ?_ | refine dcell_at (strV emB) (fun hg => gx1 hdp hg) ?_ | refine dcell_ok rfl ?_ | refine AppC.new ?_))
        all_goals try ((conv => whnf); with_reducible refine Round.mark ?_)
        all_goals try first | ((with_reducible show Option.isSome (slElem _ _) = true); kernel_rfl) | ((with_reducible show slElem _ _ = some _); kernel_rfl) | ((with_reducible refine enters_mark ?_); kernel_rfl) | (with_reducible assumption) | ((with_reducible show List.all _ DV.one = true); rfl) | ((with_reducible show (_ : Nat) = _); rfl) | ((with_reducible show (_ == true) = true); first | (simp; done) | simpa using h) | ((with_reducible show (_ : Nat) ≤ _); exact Nat.le_of_ble_eq_true rfl) | ((with_reducible show (_ : Int) ≤ _); first | omega | decide) | ((with_reducible show (_ : Int) < _); first | omega | decide) | ((with_reducible show (_ : Nat) < _); omega) | ((with_reducible show (_ : Nat) ≤ _); omega)
        all_goals try (first | ((with_reducible show (_ : Nat) < List.length [_, _, _]); exact lt3 _ _ _ (by decide)) | ((with_reducible show (_ : Nat) < List.length [_, _]); exact lt2 _ _ (by decide)) | ((with_reducible show isStr _ _ = true); kernel_rfl) | (with_reducible exact tnb h) | ((with_reducible show Option.all _ _ = true); rfl) | (exact gx1 hdp h; done) | ((with_reducible show (_ + 1) * _ ≤ _); exact rc_b2 hol) | ((with_reducible show _ + 1 ≤ maxLen); exact rc_b3 hol) | (exact rc_b1 o; done))
        refine Round.go (fun _ => Pi.mk (n - 1) (restOf t) (o ++ [(readC (lineOf t)).1])) ?_ ?_ (Weak.list [(0, some 0), (1, some 1), (2, some 5)] [] (by kernel_rfl) ?_ ?_)
        · exact ⟨by show (restOf t).size < n - 1; omega, by show (o ++ [_]).length + (restOf t).size ≤ _; simp only [List.length_append, List.length_cons, List.length_nil]; omega, by show parN (n - 1) (restOf t) (o ++ [_]) = _; rw [← hi3, pn_next hi1 h0 h1 h2]⟩
        · show n - 1 < n
          omega
        iterate 2 · repeat' (first | exact wpush1 hol1 | exact DW.arrE rfl (pushC _ _) | exact DWl.eq (rowC_push _ (readC (lineOf t)).1) (rowC_all _) | exact DW.same _ rfl | exact DW.ref _ _ _ rfl | exact DW.arr _ _ _ rfl | exact OW.cells rfl rfl (DWl.same rfl) | refine OW.cells rfl rfl ?_ | refine DWl.cons ?_ ?_ | exact DWl.nil | exact DW.nilArr _ rfl | exact DW.nilLst _ | refine DW.clol ?_ ?_ | refine DW.aggl ?_ | refine DW.tupl ?_ | refine DW.int ?_ | refine DW.bool ?_ | refine DW.str ?_ | refine DW.arrE rfl ?_ | ((conv => whnf); first | refine And.intro ?_ ?_ | trivial))
  · have h0 := eq_false_of_ne_true h0
    have e : parseT t0 = (o, 0, 0) := by rw [← hi3, pn_end hi1 h0]
    repeat' (first | with_reducible rfl | ((conv => whnf); first | refine And.intro ?_ ?_ | (intro h; first | with_reducible exact tf_no h | with_reducible exact ft_no h | exact Bool.noConfusion h | with_reducible exact h | (exfalso; exact bt_x h0 h) | (have ht : true = true := h; clear ht h) | skip) | ((with_reducible refine SCall.mark ?_); first | refine SCall.data (hc) rfl rfl ?_ | refine SCall.scal (hc) rfl rfl ?_ | refine SCall.data (hr) rfl rfl ?_ | refine SCall.scal (hr) rfl rfl ?_) | ((with_reducible refine PCall.mark ?_); first | refine PCall.mk (hc) rfl rfl ?_ | refine PCall.mk (hr) rfl rfl ?_) | ((with_reducible refine GCall.mark ?_); first | refine GCall.data (fun _ => hc) rfl rfl ?_ | refine GCall.scal (fun _ => hc) rfl rfl ?_ | refine GCall.data (fun _ => hr) rfl rfl ?_ | refine GCall.scal (fun _ => hr) rfl rfl ?_) | ((with_reducible refine MCall.mark ?_); first | refine MCall.data (fun _ => hc) rfl rfl ?_ | refine MCall.plain (PCall.mk (hc) rfl rfl ?_) | refine MCall.data (fun _ => hr) rfl rfl ?_ | refine MCall.plain (PCall.mk (hr) rfl rfl ?_)) | ((with_reducible refine Tri.mark ?_); first | (refine Tri.treeX [0] (MX.mv 0 0 (MX.mv 0 1 (MX.mv 1 2 MX.done))) ?_ (by kernel_rfl) ?_; rfl) | (refine Tri.treeX [0] (MX.mv 0 0 (MX.mv 0 1 (MX.mv 0 2 (MX.mv 1 3 MX.done)))) ?_ (by kernel_rfl) ?_; rfl)) | ((with_reducible refine ECall.mark ?_); first | refine ECall.only ?_ (fun h => nomatch h) | refine ECall.only ?_ ?_) | ((with_reducible refine Drawn.mark ?_); first | refine Drawn.quiet (by kernel_rfl) ?_) | refine dloadE_map (ch0) ?_ ?_ | refine dcell_ok rfl ?_ | refine AppC.new ?_))
    all_goals try first | ((with_reducible show Option.isSome (slElem _ _) = true); kernel_rfl) | ((with_reducible show slElem _ _ = some _); kernel_rfl) | ((with_reducible refine enters_mark ?_); kernel_rfl) | (with_reducible assumption) | ((with_reducible show List.all _ DV.one = true); rfl) | ((with_reducible show (_ : Nat) = _); rfl) | ((with_reducible show (_ == true) = true); first | (simp; done) | simpa using h) | ((with_reducible show (_ : Nat) ≤ _); exact Nat.le_of_ble_eq_true rfl) | ((with_reducible show (_ : Int) ≤ _); first | omega | decide) | ((with_reducible show (_ : Int) < _); first | omega | decide) | ((with_reducible show (_ : Nat) < _); omega) | ((with_reducible show (_ : Nat) ≤ _); omega)
    all_goals try (first | ((with_reducible show (_ : Nat) < List.length [_, _, _]); exact lt3 _ _ _ (by decide)) | ((with_reducible show (_ : Nat) < List.length [_, _]); exact lt2 _ _ (by decide)) | ((with_reducible show isStr _ _ = true); kernel_rfl) | (with_reducible exact tnb h) | ((with_reducible show Option.all _ _ = true); rfl))
    repeat' (first | with_reducible rfl | ((conv => whnf); first | refine And.intro ?_ ?_ | (intro h; first | with_reducible exact tf_no h | with_reducible exact ft_no h | exact Bool.noConfusion h | with_reducible exact h | (have ht : true = true := h; clear ht h) | skip) | ((with_reducible refine ECall.mark ?_); first | refine ECall.only ?_ (fun h => nomatch h) | refine ECall.only ?_ ?_) | ((with_reducible refine Drawn.mark ?_); first | refine Drawn.quiet (by kernel_rfl) ?_) | refine dloadE_map (ch0) ?_ ?_ | refine dcell_ok rfl ?_ | refine AppC.new ?_))
    all_goals (conv => whnf)
    all_goals exact Tells.of (congrArg ptV e) (Tells.mk (DW.tupl (DWl.cons (DW.pubM (l := o) (f := chD) rfl rfl rfl rfl chRow (rowC_eq o)) (DWl.cons (DW.aggl (DWl.cons (DW.same _ rfl) (DWl.cons (DW.same _ rfl) DWl.nil))) DWl.nil))))
end Go.Proofs.YtagfmppjlfhmeaaGreatDoor
namespace Go.Proofs.YtagfmppjlfhmeaaGreatDoor
open Go.RowKit Go.Dl
theorem idx3 (x : UInt8) (hx : x ≠ 32) (a b : List UInt8) (ha : ∀ y ∈ a, y ≠ x) : Lib.index (a ++ ([32, x, 32] ++ b)) [32, x, 32] = a.length := by
  refine Lib.index_first (by simp) ?_ ?_
  · unfold Lib.occAt
    rw [List.drop_left]
    exact List.isPrefixOf_iff_prefix.2 ⟨b, rfl⟩
  · intro j hj
    refine Bool.eq_false_iff.2 fun h => ?_
    unfold Lib.occAt at h
    obtain ⟨r, hr⟩ := List.isPrefixOf_iff_prefix.1 h
    have e : ((a ++ ([32, x, 32] ++ b)).drop j)[1]? = some x := by rw [← hr]; rfl
    rw [List.getElem?_drop] at e
    by_cases h2 : j + 1 < a.length
    · rw [List.getElem?_append_left h2] at e
      exact ha x (List.mem_of_getElem? e) rfl
    · rw [List.getElem?_append_right (by omega), show j + 1 - a.length = 0 by omega] at e
      exact hx (Option.some.inj e).symm
theorem idx1 (x : UInt8) (a b : List UInt8) (ha : ∀ y ∈ a, y ≠ x) : Lib.index (a ++ ([x] ++ b)) [x] = a.length := by
  refine Lib.index_first (by simp) ?_ ?_
  · unfold Lib.occAt
    rw [List.drop_left]
    exact List.isPrefixOf_iff_prefix.2 ⟨b, rfl⟩
  · intro j hj
    refine Bool.eq_false_iff.2 fun h => ?_
    unfold Lib.occAt at h
    obtain ⟨r, hr⟩ := List.isPrefixOf_iff_prefix.1 h
    have e : ((a ++ ([x] ++ b)).drop j)[0]? = some x := by rw [← hr]; rfl
    rw [List.getElem?_drop, List.getElem?_append_left (by omega)] at e
    exact ha x (List.mem_of_getElem? e) rfl
theorem bs_ba (a : ByteArray) : bs a.data.toList = a := by
  cases a; simp [bs]
theorem cut_l {a b sep : ByteArray} (h : Lib.index (a.data.toList ++ (sep.data.toList ++ b.data.toList)) sep.data.toList = a.data.toList.length) : cutT (a ++ sep ++ b) sep = (a, b, true) := by
  unfold cutT Lib.cut
  rw [ByteArray.append_assoc, ByteArray.toList_data_append, ByteArray.toList_data_append, h, if_pos (by omega), Int.toNat_natCast, List.take_left]
  have e : (a.data.toList ++ (sep.data.toList ++ b.data.toList)).drop (a.data.toList.length + sep.data.toList.length) = b.data.toList := by
    rw [← List.append_assoc, ← List.length_append, List.drop_left]
  rw [e, bs_ba, bs_ba]
def No (x : UInt8) (s : ByteArray) : Prop := ∀ y ∈ s.data.toList, y ≠ x
theorem No.app {x : UInt8} {a b : ByteArray} (ha : No x a) (hb : No x b) : No x (a ++ b) := by
  intro y hy
  rw [ByteArray.toList_data_append, List.mem_append] at hy
  rcases hy with hy | hy
  · exact ha y hy
  · exact hb y hy
theorem cut_is {a b : ByteArray} (ha : No 61 a) : cutT (a ++ isB ++ b) isB = (a, b, true) := cut_l (idx3 61 (by decide) _ _ ha)
theorem cut_to {a b : ByteArray} (ha : No 62 a) : cutT (a ++ toB ++ b) toB = (a, b, true) := cut_l (idx3 62 (by decide) _ _ ha)
theorem cut_nl {a b : ByteArray} (ha : No 10 a) : cutT (a ++ nlB ++ b) nlB = (a, b, true) := cut_l (idx1 10 _ _ ha)
theorem plain_ok {s : ByteArray} (h : plainB s = true) : ∀ y ∈ s.data.toList, okP ((y.toNat : Nat) : Int) := by
  unfold plainB at h
  rw [Bool.and_eq_true] at h
  have h1 := of_decide_eq_true h.1
  intro y hy
  obtain ⟨i, hi, rfl⟩ := List.getElem_of_mem hy
  have := h1 i (by rw [← ba_len s]; exact hi)
  unfold byteAt at this
  rw [List.getD_eq_getElem?_getD, List.getElem?_eq_getElem hi] at this
  exact this
theorem plain_no {s : ByteArray} (h : plainB s = true) (x : UInt8) (hx : ¬ okP ((x.toNat : Nat) : Int)) : No x s := by
  intro y hy e
  subst e
  exact hx (plain_ok h _ hy)
theorem n61 : ¬ okP (((61 : UInt8).toNat : Nat) : Int) := fun h => h.2.2.1 rfl
theorem n62 : ¬ okP (((62 : UInt8).toNat : Nat) : Int) := fun h => h.2.2.2 rfl
theorem n10 : ¬ okP (((10 : UInt8).toNat : Nat) : Int) := fun h => absurd h.1 (by decide)
structure One (c : Ch) : Prop where
  p : plainB c.p = true
  w : plainB c.was = true
  i : plainB c.is = true
theorem one_pl {c : Ch} (h : oneB c = true) : One c := by
  obtain ⟨h1, h2, h3, _⟩ := oneB_iff.1 h
  unfold pathB at h1
  unfold valB at h2 h3
  rw [Bool.and_eq_true] at h1 h2 h3
  exact ⟨h1.1, h2.1, h3.1⟩
theorem one_cs {c : Ch} (h : oneB c = true) : c = ⟨c.p, false, emB, true, c.is⟩ ∨ c = ⟨c.p, true, c.was, false, emB⟩ ∨ c = ⟨c.p, true, c.was, true, c.is⟩ := by
  obtain ⟨_, _, _, h4, h5, h6, _⟩ := oneB_iff.1 h
  obtain ⟨p, hw, was, hi, is⟩ := c
  simp only at h4 h5 h6
  cases hw
  · rcases h4 with h4 | h4
    · cases h4
    · subst h4
      left; rw [h5 rfl]
  · cases hi
    · right; left; rw [h6 rfl]
    · right; right; rfl
theorem hd_of (a p : ByteArray) (h : a.size = 2) : (a ++ p).extract 0 2 = a := ByteArray.extract_append_eq_left h.symm
theorem tl_of (a p : ByteArray) (h : a.size = 2) : (a ++ p).extract 2 (a ++ p).size = p := ByteArray.extract_append_eq_right h.symm ByteArray.size_append
theorem bad_of {s a p x : ByteArray} (ha : a.size = 2) (h : cutT s isB = (a ++ p, x, true)) : badA s = false ∧ headA s = a ∧ pathA s = p ∧ saidA s = x := by
  have e : restA s = a ++ p := by unfold restA; rw [h]
  refine ⟨?_, ?_, ?_, ?_⟩
  · unfold badA
    rw [e, h]
    exact decide_eq_false (by rw [ByteArray.size_append]; omega)
  · unfold headA; rw [e, hd_of a p ha]
  · unfold pathA; rw [e, tl_of a p ha]
  · unfold saidA; rw [h]
theorem ok_c {c : Ch} (h : oneB c = true) : okC c (lineC c) = (c, true) := by
  unfold okC
  rw [h, cond_true, ba_eq.2 rfl]
theorem read_line {c : Ch} (h : oneB c = true) : readC (lineC c) = (c, true) := by
  have hp := one_pl h
  have hb := one_cs h
  have n1 : ∀ a : ByteArray, No 61 a → No 61 (a ++ c.p) := fun a ha => ha.app (plain_no hp.p 61 n61)
  rcases hb with e | e | e
  · have hl : lineC c = plusB ++ c.p ++ isB ++ c.is := by rw [e]; rfl
    obtain ⟨b0, b1, b2, b3⟩ := bad_of (a := plusB) rfl (cut_is (b := c.is) (n1 plusB (by unfold No plusB; decide)))
    rw [← hl] at b0 b1 b2 b3
    rw [rd_1 b0 (by rw [b1]; rfl), b2, b3, ← e]
    exact ok_c h
  · have hl : lineC c = minusB ++ c.p ++ isB ++ c.was := by rw [e]; rfl
    obtain ⟨b0, b1, b2, b3⟩ := bad_of (a := minusB) rfl (cut_is (b := c.was) (n1 minusB (by unfold No minusB; decide)))
    rw [← hl] at b0 b1 b2 b3
    rw [rd_2 b0 (by rw [b1]; rfl) (by rw [b1]; rfl), b2, b3, ← e]
    exact ok_c h
  · have hl : lineC c = wavB ++ c.p ++ isB ++ (c.was ++ toB ++ c.is) := by
      rw [e]
      show wavB ++ c.p ++ isB ++ c.was ++ toB ++ c.is = _
      simp only [ByteArray.append_assoc]
    obtain ⟨b0, b1, b2, b3⟩ := bad_of (a := wavB) rfl (cut_is (b := c.was ++ toB ++ c.is) (n1 wavB (by unfold No wavB; decide)))
    rw [← hl] at b0 b1 b2 b3
    have k := cut_to (b := c.is) (plain_no hp.w 62 n62)
    have k1 : (cutT (saidA (lineC c)) toB) = (c.was, c.is, true) := by rw [b3]; exact k
    have k2 : wasA (lineC c) = c.was := by unfold wasA; rw [k1]
    have k3 : isA (lineC c) = c.is := by unfold isA; rw [k1]
    rw [rd_4 b0 (by rw [b1]; rfl) (by rw [b1]; rfl) (by rw [b1]; rfl) (by rw [k1]; rfl), b2, k2, k3, ← e]
    exact ok_c h
theorem ok_ok {c : Ch} {s : ByteArray} (h : (okC c s).2 = true) : oneB (okC c s).1 = true ∧ lineC (okC c s).1 = s := by
  unfold okC at h ⊢
  have k : oneB c = true := by
    by_cases k : oneB c = true
    · exact k
    · rw [eq_false_of_ne_true k] at h; cases h
  rw [k] at h
  exact ⟨k, ba_eq.1 h⟩
theorem read_ok {s : ByteArray} (h : (readC s).2 = true) : oneB (readC s).1 = true ∧ lineC (readC s).1 = s := by
  by_cases b0 : badA s = true
  · rw [rd_0 b0] at h; cases h
  · have b0 := eq_false_of_ne_true b0
    by_cases b1 : (headA s == plusB) = true
    · rw [rd_1 b0 b1] at h ⊢; exact ok_ok h
    · have b1 := eq_false_of_ne_true b1
      by_cases b2 : (headA s == minusB) = true
      · rw [rd_2 b0 b1 b2] at h ⊢; exact ok_ok h
      · have b2 := eq_false_of_ne_true b2
        by_cases b3 : (headA s == wavB) = true
        · by_cases b4 : (!(cutT (saidA s) toB).2.2) = true
          · rw [rd_3 b0 b1 b2 b3 b4] at h; cases h
          · rw [rd_4 b0 b1 b2 b3 (eq_false_of_ne_true b4)] at h ⊢; exact ok_ok h
        · rw [rd_5 b0 b1 b2 (eq_false_of_ne_true b3)] at h; cases h
def txt : List Ch → ByteArray
  | [] => emB
  | c :: l => lineC c ++ nlB ++ txt l
theorem em_app (a : ByteArray) : emB ++ a = a := ByteArray.empty_append
theorem app_em (a : ByteArray) : a ++ emB = a := ByteArray.append_empty
theorem tp_go (c : List Ch) : ∀ k, k ≤ c.length → textP c k ++ txt (c.drop k) = txt c
  | 0, _ => by rw [List.drop_zero]; exact em_app _
  | k + 1, h => by
    have ih := tp_go c k (by omega)
    have e : c.drop k = c.getD k ch0 :: c.drop (k + 1) := by
      rw [List.drop_eq_getElem_cons (by omega), List.getD_eq_getElem?_getD, List.getElem?_eq_getElem (by omega)]; rfl
    rw [e, txt] at ih
    rw [textP, ← ih]
    simp only [ByteArray.append_assoc]
theorem tp_all (c : List Ch) : textP c c.length = txt c := by
  have h := tp_go c c.length (Nat.le_refl _)
  rw [List.drop_length] at h
  rw [← h]; exact (app_em _).symm
theorem line_no {c : Ch} (h : oneB c = true) : No 10 (lineC c) := by
  have hp := one_pl h
  have np := plain_no hp.p 10 n10
  have nw := plain_no hp.w 10 n10
  have ni := plain_no hp.i 10 n10
  have k1 : No 10 plusB := by unfold No plusB; decide
  have k2 : No 10 minusB := by unfold No minusB; decide
  have k3 : No 10 wavB := by unfold No wavB; decide
  have k4 : No 10 isB := by unfold No isB; decide
  have k5 : No 10 toB := by unfold No toB; decide
  unfold lineC
  cases c.hw
  · exact ((k1.app np).app k4).app ni
  · cases c.hi
    · exact ((k2.app np).app k4).app nw
    · exact ((((k3.app np).app k4).app nw).app k5).app ni
theorem txt_ne (c : Ch) (l : List Ch) : (txt (c :: l) != emB) = true := by
  refine bne_iff.2 fun e => ?_
  have := congrArg ByteArray.size e
  rw [txt, ByteArray.size_append, ByteArray.size_append] at this
  have e1 : nlB.size = 1 := rfl
  have e2 : emB.size = 0 := rfl
  omega
theorem par_txt : ∀ (l o : List Ch) (n : Nat), fitCB (o ++ l) = true → (txt l).size < n → parN n (txt l) o = (o ++ l, 0, 0)
  | [], o, n, _, hn => by rw [List.append_nil]; exact pn_end hn rfl
  | c :: l, o, n, hf, hn => by
    have hb : badC (o ++ c :: l) o.length = false := of_decide_eq_true (show decide (∀ i, i < (o ++ c :: l).length → badC (o ++ c :: l) i = false) = true from hf) o.length (by simp)
    have g1 : (o ++ c :: l).getD o.length ch0 = c := by simp [List.getD_eq_getElem?_getD]
    have h1 : oneB c = true := by
      unfold badC at hb
      rw [g1] at hb
      cases k : oneB c with
      | true => rfl
      | false => rw [k] at hb; cases hb
    have hlow : lowB o c = false := by
      unfold badC at hb
      rw [g1, h1] at hb
      unfold lowB
      by_cases hp : 0 < (o.length : Int)
      · rw [decide_eq_true hp] at hb ⊢
        have g2 : (o ++ c :: l).getD (o.length - 1) ch0 = o.getD (o.length - 1) ch0 := by
          rw [List.getD_eq_getElem?_getD, List.getD_eq_getElem?_getD, List.getElem?_append_left (by omega)]
        rw [g2] at hb
        exact hb
      · rw [decide_eq_false hp]; rfl
    have hc := cut_nl (b := txt l) (line_no h1)
    have e1 : lineOf (txt (c :: l)) = lineC c := by unfold lineOf; rw [txt, hc]
    have e2 : restOf (txt (c :: l)) = txt l := by unfold restOf; rw [txt, hc]
    have e3 : endOf (txt (c :: l)) = true := by unfold endOf; rw [txt, hc]
    have hr := read_line h1
    have hs := rest_sz (bne_iff.1 (txt_ne c l))
    rw [e2] at hs
    rw [pn_next hn (txt_ne c l) (by rw [e1, hr, e3]; rfl) (by rw [e1, hr]; exact hlow), e1, e2, hr]
    show parN (n - 1) (txt l) (o ++ [c]) = _
    rw [par_txt l (o ++ [c]) (n - 1) (by rw [List.append_assoc]; exact hf) (by omega), List.append_assoc]; rfl
theorem cut_back {t : ByteArray} (h : endOf t = true) : lineOf t ++ nlB ++ restOf t = t := by
  unfold endOf cutT at h
  unfold lineOf restOf cutT
  unfold Lib.cut at h ⊢
  rcases Lib.index_spec t.data.toList nlB.data.toList with ⟨h1, _⟩ | ⟨i, h1, h2, h3, _⟩
  · rw [h1, if_neg (by decide)] at h; cases h
  · rw [h1, if_pos (by omega)]
    simp only [Int.toNat_natCast]
    unfold Lib.occAt at h3
    obtain ⟨r, hr⟩ := List.isPrefixOf_iff_prefix.1 h3
    have e : t.data.toList = t.data.toList.take i ++ (nlB.data.toList ++ r) := by rw [hr, List.take_append_drop]
    have e2 : t.data.toList.drop (i + nlB.data.toList.length) = r := by
      rw [← List.drop_drop, ← hr, List.drop_left]
    rw [e2]
    rw [← bs_ba t]
    refine ByteArray.ext ?_
    show _ = t.data.toList.toArray
    rw [← Array.toList_inj]
    rw [ByteArray.toList_data_append, ByteArray.toList_data_append]
    show t.data.toList.take i ++ nlB.data.toList ++ r = t.data.toList
    rw [List.append_assoc, ← e]
theorem par_back : ∀ (n : Nat) (t : ByteArray) (o : List Ch), t.size < n → (parN n t o).2.2 = 0 → ∃ l, (parN n t o).1 = o ++ l ∧ t = txt l ∧ ∀ x ∈ l, oneB x = true
  | 0, _, _, hn, _ => absurd hn (Nat.not_lt_zero _)
  | n + 1, t, o, hn, h => by
    by_cases h0 : (t != emB) = true
    · by_cases h1 : (bif !(readC (lineOf t)).2 then true else !endOf t) = true
      · rw [pn_bad hn h0 h1] at h; cases h
      · have h1 := eq_false_of_ne_true h1
        by_cases h2 : lowB o (readC (lineOf t)).1 = true
        · rw [pn_low hn h0 h1 h2] at h; cases h
        · have h2 := eq_false_of_ne_true h2
          rw [pn_next hn h0 h1 h2] at h ⊢
          have hs := rest_sz (bne_iff.1 h0)
          obtain ⟨l, g1, g2, g3⟩ := par_back n (restOf t) (o ++ [(readC (lineOf t)).1]) (by omega) h
          have k : (readC (lineOf t)).2 = true ∧ endOf t = true := by
            cases k1 : (readC (lineOf t)).2 with
            | false => rw [k1] at h1; cases h1
            | true =>
              rw [k1] at h1
              cases k2 : endOf t with
              | false => rw [k2] at h1; cases h1
              | true => exact ⟨rfl, rfl⟩
          obtain ⟨q1, q2⟩ := read_ok k.1
          refine ⟨(readC (lineOf t)).1 :: l, ?_, ?_, ?_⟩
          · rw [show n + 1 - 1 = n from rfl, g1, List.append_assoc]; rfl
          · rw [txt, q2, ← g2]; exact (cut_back k.2).symm
          · intro x hx
            rcases List.mem_cons.1 hx with rfl | hx
            · exact q1
            · exact g3 x hx
    · have h0 := eq_false_of_ne_true h0
      rw [pn_end hn h0]
      refine ⟨[], (List.append_nil _).symm, ?_, fun x hx => by cases hx⟩
      exact Classical.byContradiction fun k => by rw [bne_iff.2 (show t ≠ emB from k)] at h0; cases h0
theorem parse_print {c : List Ch} (h : fitCB c = true) : parseT (txt c) = (c, 0, 0) := par_txt c [] _ h (Nat.lt_succ_self _)
theorem print_parse {t : ByteArray} (h : (parseT t).2.2 = 0) : txt (parseT t).1 = t ∧ ∀ x ∈ (parseT t).1, oneB x = true := by
  obtain ⟨l, h1, h2, h3⟩ := par_back (t.size + 1) t [] (Nat.lt_succ_self _) h
  have e : (parseT t).1 = l := h1
  rw [e]
  exact ⟨h2.symm, h3⟩
end Go.Proofs.YtagfmppjlfhmeaaGreatDoor
