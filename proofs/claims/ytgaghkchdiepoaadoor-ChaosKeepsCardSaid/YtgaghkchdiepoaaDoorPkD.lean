/- A storm: for any numbers, by the program; the document's. -/
import Derived.Test.YtgaghkchdiepoaaDoorPkC
import Derived.Lib.ItoaLen
import Derived.Test.YtgaghkchdiepoaaDoorDl30

namespace Go.Proofs.YtgaghkchdiepoaaDoor
open Go.RowKit Go.Dl
attribute [local irreducible] Tri SCall TSem ECall Drawn DFun QSem PSem PCall GCall MCall Round Weak dloadE OW DWl Tells Retold ESem
theorem storm_out {n s x : Int} (h : (bif bif bif decide (n < 1) then true else decide (16 < n) then true else decide (s < 1) then true else decide (1048576 < s)) = true) : stormT n s x = [] := by
  unfold stormT
  rw [if_pos (by simp at h; omega)]
theorem storm_in {n s : Int} (h : (bif bif bif decide (n < 1) then true else decide (16 < n) then true else decide (s < 1) then true else decide (1048576 < s)) = false) : (1 ≤ n ∧ n ≤ 16) ∧ (1 ≤ s ∧ s ≤ 1048576) := by
  simp at h; omega
set_option maxRecDepth 100000 in
theorem storm22_A (n s x : Int) : DPure Tryd.prog 22 [int1 n, int1 s, u64 x] (mxs (stormT n s x)) := by
  cases h0 : (bif bif bif decide (n < 1) then true else decide (16 < n) then true else decide (s < 1) then true else decide (1048576 < s)) with
  | false => exact storm22_D n s x (storm_in h0).1 (storm_in h0).2
  | true =>
    rw [storm_out h0]
    refine DFun.data (DFun.body Tryd.func22 rfl (by kernel_rfl) ?_)
    repeat' (first | with_reducible rfl | ((conv => whnf); first | refine And.intro ?_ ?_ | (intro h; first | with_reducible exact tf_no h | with_reducible exact ft_no h | exact Bool.noConfusion h | with_reducible exact h | (refine not_f h ?_; exact h0) | (have ht : true = true := h; clear ht h) | skip) | ((with_reducible refine DWl.mark ?_); repeat' (first | refine DWl.cons ?_ ?_ | exact DWl.nil | exact DW.same _ rfl | exact DW.ref _ _ _ rfl | exact DW.arr _ _ _ rfl | exact DW.sub _ _ _ _ rfl | exact DW.nilLst _ | refine DW.aggl ?_ | refine DW.tupl ?_ | refine DW.clol ?_ ?_ | refine DW.int ?_ | refine DW.bool ?_ | refine DW.str ?_)) | ((with_reducible refine ECall.mark ?_); first | refine ECall.only ?_ (fun h => nomatch h) | refine ECall.only ?_ ?_) | ((with_reducible refine Drawn.mark ?_); first | refine Drawn.quiet (by kernel_rfl) ?_) | refine dcell_ok rfl ?_ | refine AppC.new ?_))
    all_goals first | (with_reducible refine enters_mark ?_; kernel_rfl) | (with_reducible refine boolT_mark ?_; kernel_rfl) | rfl | trivial | assumption | exact Nat.le_of_ble_eq_true rfl | (show entersB _ _ = true; kernel_rfl) | exact DW.same _ rfl | exact DW.ref _ _ _ rfl | exact DW.arr _ _ _ rfl | refine DW.int ?_ | refine dvb ?_ | refine dvi ?_ | exact OW.cells rfl rfl (DWl.same rfl) | exact Nat.zero_le _ | omega | skip
    all_goals repeat' (first | refine OW.cells rfl rfl ?_ | exact DW.nilArr _ rfl | refine DWl.cons ?_ ?_ | exact DWl.nil | exact DW.same _ rfl | exact DW.ref _ _ _ rfl | exact DW.arr _ _ _ rfl | exact DW.sub _ _ _ _ rfl | exact DW.nilLst _ | refine DW.aggl ?_ | refine DW.tupl ?_ | refine DW.clol ?_ ?_)
    all_goals try ((conv => whnf); with_reducible first | refine Round.mark ?_ | refine Tells.mark ?_ | refine Retold.mark ?_)
    all_goals try first | (show (_ : Bool) = _; simp_all; done) | (show (_ : Int) < _; simp at *; omega) | (show (_ : Int) ≤ _; simp at *; omega) | (show (_ : Nat) < _; simp at *; omega) | (show (_ : Nat) ≤ _; simp at *; omega)
    conv => whnf
    exact Tells.mk (DW.nilLst _)
def rawD4 (n s x : Int) : List Mx := [⟨1, 0, s, (IntKind.i64.wrap (dr x 1)).tmod 400, 0, 0⟩, ⟨2, 0, s, (IntKind.i64.wrap (dr x 2)).tmod 300, 0, 0⟩, ⟨3, 0, s, (IntKind.i64.wrap (dr x 3)).tmod 500, 0, 0⟩, ⟨5, (IntKind.i64.wrap (dr x 4)).tmod s, IntKind.i64.wrap ((IntKind.i64.wrap (dr x 4)).tmod s + (IntKind.i64.wrap (dr x 5)).tmod (IntKind.i64.wrap (IntKind.i64.wrap (s - (IntKind.i64.wrap (dr x 4)).tmod s) + 1))), 0, (IntKind.i64.wrap (dr x 6)).tmod n, 0⟩]
def rawDS (n s x : Int) : Mx := ⟨4, (IntKind.i64.wrap (dr x 7)).tmod s, IntKind.i64.wrap ((IntKind.i64.wrap (dr x 7)).tmod s + (IntKind.i64.wrap (dr x 8)).tmod (IntKind.i64.wrap (IntKind.i64.wrap (s - (IntKind.i64.wrap (dr x 7)).tmod s) + 1))), 0, (IntKind.i64.wrap (dr x 9)).tmod n, (IntKind.i64.wrap (IntKind.i64.wrap ((IntKind.i64.wrap (dr x 9)).tmod n + 1) + (IntKind.i64.wrap (dr x 10)).tmod (IntKind.i64.wrap (n - 1)))).tmod n⟩
theorem ym_eq {v m : Int} (hv : 0 ≤ v ∧ v < 2147483648) : (IntKind.i64.wrap v).tmod m = v % m := by
  rw [wrapI (by omega) (by omega), Int.tmod_eq_emod_of_nonneg hv.1]
theorem subY {s v : Int} (hv : 0 ≤ v ∧ v < 2147483648) (hs : 1 ≤ s ∧ s ≤ 1048576) : IntKind.i64.wrap (IntKind.i64.wrap (s - (IntKind.i64.wrap v).tmod s) + 1) = s - v % s + 1 ∧ 2 ≤ s - v % s + 1 ∧ s - v % s + 1 ≤ s + 1 := by
  have h1 := Int.emod_nonneg v (show s ≠ 0 by omega)
  have h2 := Int.emod_lt_of_pos v (show 0 < s by omega)
  rw [ym_eq hv, wrapI (x := s - v % s) (by omega) (by omega), wrapI (by omega) (by omega)]
  omega
theorem tY_eq {s a b : Int} (ha : 0 ≤ a ∧ a < 2147483648) (hb : 0 ≤ b ∧ b < 2147483648) (hs : 1 ≤ s ∧ s ≤ 1048576) : IntKind.i64.wrap ((IntKind.i64.wrap a).tmod s + (IntKind.i64.wrap b).tmod (IntKind.i64.wrap (IntKind.i64.wrap (s - (IntKind.i64.wrap a).tmod s) + 1))) = tC s a b := by
  unfold tC
  obtain ⟨e, h1, h2⟩ := subY ha hs
  have h3 := Int.emod_nonneg a (show s ≠ 0 by omega)
  have h4 := Int.emod_lt_of_pos a (show 0 < s by omega)
  have h5 := Int.emod_nonneg b (show s - a % s + 1 ≠ 0 by omega)
  have h6 := Int.emod_lt_of_pos b (show 0 < s - a % s + 1 by omega)
  rw [e, ym_eq ha, ym_eq hb, wrapI (by omega) (by omega)]
theorem subY_no {s v : Int} {Q : Prop} (hv : 0 ≤ v ∧ v < 2147483648) (hs : 1 ≤ s ∧ s ≤ 1048576) (h : IntKind.i64.wrap (IntKind.i64.wrap (s - (IntKind.i64.wrap v).tmod s) + 1) = 0) : Q := by
  obtain ⟨e, h1, h2⟩ := subY hv hs
  rw [e] at h; omega
theorem nY_no {n : Int} {Q : Prop} (hn : n ≤ 16) (h1 : decide (n < 2) = false) (h : IntKind.i64.wrap (n - 1) = 0) : Q := by
  have := of_decide_eq_false h1
  rw [wrapI (x := n - 1) (by omega) (by omega)] at h
  omega
theorem rawD4_eq {n s x : Int} (hs : 1 ≤ s ∧ s ≤ 1048576) : rawD4 n s x = [⟨1, 0, s, dr x 1 % 400, 0, 0⟩, ⟨2, 0, s, dr x 2 % 300, 0, 0⟩, ⟨3, 0, s, dr x 3 % 500, 0, 0⟩, ⟨5, dr x 4 % s, tC s (dr x 4) (dr x 5), 0, dr x 6 % n, 0⟩] := by
  have D := fun j => dr_range x (j := j)
  unfold rawD4
  rw [tY_eq (D 4 (by decide)) (D 5 (by decide)) hs, ym_eq (D 1 (by decide)), ym_eq (D 2 (by decide)), ym_eq (D 3 (by decide)), ym_eq (D 4 (by decide)), ym_eq (D 6 (by decide))]
theorem rawDS_eq {n s x : Int} (hn : 2 ≤ n ∧ n ≤ 16) (hs : 1 ≤ s ∧ s ≤ 1048576) : rawDS n s x = ⟨4, dr x 7 % s, tC s (dr x 7) (dr x 8), 0, dr x 9 % n, (dr x 9 % n + 1 + dr x 10 % (n - 1)) % n⟩ := by
  have D := fun j => dr_range x (j := j)
  have h3 := Int.emod_nonneg (dr x 9) (show n ≠ 0 by omega)
  have h4 := Int.emod_lt_of_pos (dr x 9) (show 0 < n by omega)
  have h5 := Int.emod_nonneg (dr x 10) (show n - 1 ≠ 0 by omega)
  have h6 := Int.emod_lt_of_pos (dr x 10) (show 0 < n - 1 by omega)
  unfold rawDS
  rw [tY_eq (D 7 (by decide)) (D 8 (by decide)) hs, ym_eq (D 7 (by decide)), ym_eq (D 9 (by decide)), wrapI (x := n - 1) (by omega) (by omega), ym_eq (D 10 (by decide)), wrapI (x := dr x 9 % n + 1) (by omega) (by omega), wrapI (by omega) (by omega), Int.tmod_eq_emod_of_nonneg (by omega)]
theorem stormD_lo {n s x : Int} (hn : 1 ≤ n ∧ n ≤ 16) (hs : 1 ≤ s ∧ s ≤ 1048576) (h2 : n < 2) : stormT n s x = rawD4 n s x := by
  unfold stormT
  rw [if_neg (by omega), if_pos h2, rawD4_eq hs, List.append_nil]
theorem stormD_hi {n s x : Int} (hn : 1 ≤ n ∧ n ≤ 16) (hs : 1 ≤ s ∧ s ≤ 1048576) (h2 : ¬ n < 2) : stormT n s x = rawD4 n s x ++ [rawDS n s x] := by
  unfold stormT
  rw [if_neg (by omega), if_neg h2, rawD4_eq hs, rawDS_eq (by omega) hs]
theorem zero_no {v : Int} {Q : Prop} (hv : 1 ≤ v) (h : v = 0) : Q := by omega
attribute [local irreducible] tC stormT IntKind.wrap
set_option maxRecDepth 100000 in
set_option maxHeartbeats 2000000 in
theorem storm23_D (n s x : Int) : DPure Tryd.prog 23 [int1 n, int1 s, u64 x] (mxs (stormT n s x)) := by
  refine DFun.data (DFun.body Tryd.func23 rfl (by kernel_rfl) ?_)
  repeat' (first | with_reducible rfl | ((conv => whnf); first | refine And.intro ?_ ?_ | (intro h; first | with_reducible exact tf_no h | with_reducible exact ft_no h | exact Bool.noConfusion h | with_reducible exact h | (have ht : true = true := h; clear ht h) | skip) | ((with_reducible refine DWl.mark ?_); repeat' (first | refine DWl.cons ?_ ?_ | exact DWl.nil | exact DW.same _ rfl | exact DW.ref _ _ _ rfl | exact DW.arr _ _ _ rfl | exact DW.sub _ _ _ _ rfl | exact DW.nilLst _ | refine DW.aggl ?_ | refine DW.tupl ?_ | refine DW.clol ?_ ?_ | refine DW.int ?_ | refine DW.bool ?_ | refine DW.str ?_)) | ((with_reducible refine SCall.mark ?_); first | refine SCall.run Tryd.func44 rfl (Nat.le_of_ble_eq_true rfl) (by kernel_rfl) ?_ | refine SCall.run Tryd.func45 rfl (Nat.le_of_ble_eq_true rfl) (by kernel_rfl) ?_) | ((with_reducible refine Tri.mark ?_); first | (refine Tri.treeX [0] (MX.mv 0 0 (MX.mv 0 1 (MX.mv 0 2 (MX.mv 0 4 (MX.mv 0 5 (MX.mv 0 6 (MX.mv 0 7 (MX.mv 2 3 (MX.mv 0 8 (MX.mv 0 9 (MX.mv 0 10 (MX.mv 0 11 MX.done)))))))))))) ?_ (by kernel_rfl) ?_; rfl)) | ((with_reducible refine ECall.mark ?_); first | refine ECall.only ?_ (fun h => nomatch h) | refine ECall.only ?_ ?_) | ((with_reducible refine Drawn.mark ?_); first | (refine Drawn.tree ?_; refine Tri.treeX [0] (MX.mv 0 0 (MX.mv 0 1 (MX.mv 0 2 (MX.mv 0 4 (MX.mv 0 5 (MX.mv 0 6 (MX.mv 0 7 (MX.mv 2 3 (MX.mv 0 8 (MX.mv 0 9 (MX.mv 0 10 (MX.mv 0 11 MX.done)))))))))))) ?_ (by kernel_rfl) ?_; rfl) | refine Drawn.quiet (by kernel_rfl) ?_) | refine dcell_ok rfl ?_ | refine AppC.new ?_))
  all_goals first | (with_reducible refine enters_mark ?_; kernel_rfl) | (with_reducible refine boolT_mark ?_; kernel_rfl) | rfl | trivial | assumption | exact Nat.le_of_ble_eq_true rfl | (show entersB _ _ = true; kernel_rfl) | exact DW.same _ rfl | exact DW.ref _ _ _ rfl | exact DW.arr _ _ _ rfl | refine DW.int ?_ | refine dvb ?_ | refine dvi ?_ | exact OW.cells rfl rfl (DWl.same rfl) | exact Nat.zero_le _ | omega | skip
  all_goals repeat' (first | refine OW.cells rfl rfl ?_ | exact DW.nilArr _ rfl | refine DWl.cons ?_ ?_ | exact DWl.nil | exact DW.same _ rfl | exact DW.ref _ _ _ rfl | exact DW.arr _ _ _ rfl | exact DW.sub _ _ _ _ rfl | exact DW.nilLst _ | refine DW.aggl ?_ | refine DW.tupl ?_ | refine DW.clol ?_ ?_)
  all_goals try ((conv => whnf); with_reducible first | refine Round.mark ?_ | refine Tells.mark ?_ | refine Retold.mark ?_)
  all_goals try first | (show (_ : Bool) = _; simp_all; done) | (show (_ : Int) < _; simp at *; omega) | (show (_ : Int) ≤ _; simp at *; omega) | (show (_ : Nat) < _; simp at *; omega) | (show (_ : Nat) ≤ _; simp at *; omega)
  · exact Tells.of (r1 := mxs []) (by rw [storm_out h]) (Tells.mk (DW.nilLst _))
  · have hs := (storm_in ‹(bif bif bif decide (n < 1) then true else decide (16 < n) then true else decide (s < 1) then true else decide (1048576 < s)) = false›).2
    exact zero_no hs.1 h
  · have hs := (storm_in ‹(bif bif bif decide (n < 1) then true else decide (16 < n) then true else decide (s < 1) then true else decide (1048576 < s)) = false›).2
    exact subY_no (v := dr x 4) (dr_range x (by decide)) hs h
  · have hn := (storm_in ‹(bif bif bif decide (n < 1) then true else decide (16 < n) then true else decide (s < 1) then true else decide (1048576 < s)) = false›).1
    exact zero_no hn.1 h
  · have hin := storm_in ‹(bif bif bif decide (n < 1) then true else decide (16 < n) then true else decide (s < 1) then true else decide (1048576 < s)) = false›
    conv => whnf
    exact Tells.of (r1 := mxs (rawD4 n s x)) (by rw [stormD_lo hin.1 hin.2 (of_decide_eq_true h)]) (Tells.mk (DW.pubM (l := rawD4 n s x) rfl rfl rfl rfl (mxsRow _) rfl))
  · have hs := (storm_in ‹(bif bif bif decide (n < 1) then true else decide (16 < n) then true else decide (s < 1) then true else decide (1048576 < s)) = false›).2
    exact zero_no hs.1 h
  · have hs := (storm_in ‹(bif bif bif decide (n < 1) then true else decide (16 < n) then true else decide (s < 1) then true else decide (1048576 < s)) = false›).2
    exact subY_no (v := dr x 7) (dr_range x (by decide)) hs h
  · have hn := (storm_in ‹(bif bif bif decide (n < 1) then true else decide (16 < n) then true else decide (s < 1) then true else decide (1048576 < s)) = false›).1
    exact zero_no hn.1 h
  · have hn := (storm_in ‹(bif bif bif decide (n < 1) then true else decide (16 < n) then true else decide (s < 1) then true else decide (1048576 < s)) = false›).1
    exact nY_no hn.2 ‹decide (n < 2) = false› h
  · have hn := (storm_in ‹(bif bif bif decide (n < 1) then true else decide (16 < n) then true else decide (s < 1) then true else decide (1048576 < s)) = false›).1
    exact zero_no hn.1 h
  · have hin := storm_in ‹(bif bif bif decide (n < 1) then true else decide (16 < n) then true else decide (s < 1) then true else decide (1048576 < s)) = false›
    conv => whnf
    exact Tells.of (r1 := mxs (rawD4 n s x ++ [rawDS n s x])) (by rw [stormD_hi hin.1 hin.2 (of_decide_eq_false h)]) (Tells.mk (DW.pubM (l := rawD4 n s x ++ [rawDS n s x]) rfl rfl rfl rfl (mxsRow _) rfl))
end Go.Proofs.YtgaghkchdiepoaaDoor

/- Lines of a plan written, by the program. -/
namespace Go.Proofs.YtgaghkchdiepoaaDoor
open Go.RowKit Go.Dl
attribute [local irreducible] Tri SCall TSem ECall Drawn DFun QSem PSem PCall GCall MCall Round Weak dloadE OW DWl Tells Retold ESem
theorem numB_size (n : Int) (h0 : -9223372036854775808 ≤ n) (h1 : n ≤ 9223372036854775807) : (numB n).size ≤ 21 := by
  have := Lib.itoa_length_le n h0 h1
  show (Lib.itoa n).toArray.size ≤ 21
  simpa using this
attribute [local irreducible] numB
def I64 (x : Int) : Prop := -9223372036854775808 ≤ x ∧ x ≤ 9223372036854775807
theorem num_sz {n : Int} (h : I64 n) : (numB n).size ≤ 21 := numB_size n h.1 h.2
def wDrop : ByteArray := ⟨#[100, 114, 111, 112]⟩
def wDouble : ByteArray := ⟨#[100, 111, 117, 98, 108, 101]⟩
def wDeliver : ByteArray := ⟨#[100, 101, 108, 105, 118, 101, 114]⟩
def wSever : ByteArray := ⟨#[115, 101, 118, 101, 114]⟩
def wCrash : ByteArray := ⟨#[99, 114, 97, 115, 104]⟩
def wordK (k : Int) : ByteArray := if k = 1 then wDrop else if k = 2 then wDouble else if k = 3 then wDeliver else if k = 4 then wSever else wCrash
def addN (s : ByteArray) (x : Int) : ByteArray := s ++ (spaceB ++ numB x)
def lineN (m : Mx) : List Int := if m.kind = 4 then [m.fr, m.til, m.a, m.b] else if m.kind = 5 then [m.fr, m.til, m.a] else [m.fr, m.til, m.rate]
def lineP (m : Mx) : ByteArray := (lineN m).foldl addN (wordK m.kind)
theorem addN_sz {s : ByteArray} {x : Int} {n : Nat} (h : s.size ≤ n) (hx : I64 x) : (addN s x).size ≤ n + 22 := by
  have := num_sz hx
  unfold addN
  rw [ByteArray.size_append, ByteArray.size_append, show spaceB.size = 1 from rfl]; omega
theorem sp_sz {x : Int} (hx : I64 x) : spaceB.size + (numB x).size ≤ 9223372036854775807 := by
  have := num_sz hx
  rw [show spaceB.size = 1 from rfl]; omega
theorem ad_sz {s : ByteArray} {x : Int} {n : Nat} (h : s.size ≤ n) (hn : n ≤ 1000000) (hx : I64 x) : s.size + (spaceB ++ numB x).size ≤ 9223372036854775807 := by
  have := num_sz hx
  rw [ByteArray.size_append, show spaceB.size = 1 from rfl]; omega
set_option maxRecDepth 20000 in
set_option maxHeartbeats 1000000 in
theorem line39_1 (fr til rate a b : Int) (h1 : I64 fr) (h2 : I64 til) (h3 : I64 rate) (_h4 : I64 a) (_h5 : I64 b) : DPure Tryd.prog 39 [.agg (mxD ⟨1, fr, til, rate, a, b⟩)] (strV (lineP ⟨1, fr, til, rate, a, b⟩)) := by
  refine DFun.data (DFun.body Tryd.func39 rfl (by kernel_rfl) ?_)
  repeat' (first | with_reducible rfl | ((conv => whnf); first | refine And.intro ?_ ?_ | (intro h; first | with_reducible exact tf_no h | with_reducible exact ft_no h | exact Bool.noConfusion h | with_reducible exact h | (exfalso; simp at h; done) | (have ht : true = true := h; clear ht h) | skip) | ((with_reducible refine DWl.mark ?_); repeat' (first | refine DWl.cons ?_ ?_ | exact DWl.nil | exact DW.same _ rfl | exact DW.ref _ _ _ rfl | exact DW.arr _ _ _ rfl | exact DW.sub _ _ _ _ rfl | exact DW.nilLst _ | refine DW.aggl ?_ | refine DW.tupl ?_ | refine DW.clol ?_ ?_ | refine DW.int ?_ | refine DW.bool ?_ | refine DW.str ?_)) | ((with_reducible refine SCall.mark ?_); first | refine SCall.run Tryd.func49 rfl (Nat.le_of_ble_eq_true rfl) (by kernel_rfl) ?_ | refine SCall.run Tryd.func54 rfl (Nat.le_of_ble_eq_true rfl) (by kernel_rfl) ?_ | refine SCall.data (itoa57_D _ ?_ ?_) rfl rfl ?_ | refine SCall.scal (itoa57_D _ ?_ ?_) rfl rfl ?_) | ((with_reducible refine PCall.mark ?_); first | refine PCall.mk (itoa57_D _ ?_ ?_) rfl rfl ?_) | ((with_reducible refine GCall.mark ?_); first | refine GCall.data (fun _ => itoa57_D _ ?_ ?_) rfl rfl ?_ | refine GCall.scal (fun _ => itoa57_D _ ?_ ?_) rfl rfl ?_) | ((with_reducible refine MCall.mark ?_); first | refine MCall.data (fun _ => itoa57_D _ ?_ ?_) rfl rfl ?_ | refine MCall.plain (PCall.mk (itoa57_D _ ?_ ?_) rfl rfl ?_)) | ((with_reducible refine Tri.mark ?_); first | (refine Tri.treeX [] (MX.mv 0 1 (MX.mv 0 2 (MX.mv 0 3 (MX.mv 2 0 (MX.mv 1 4 (MX.mv 1 5 (MX.mv 1 6 MX.done))))))) ?_ (by kernel_rfl) ?_; rfl) | refine Tri.rounds 5 (by kernel_rfl) ?_) | ((with_reducible refine ECall.mark ?_); first | refine ECall.only ?_ (fun h => nomatch h) | refine ECall.only ?_ ?_) | ((with_reducible refine Drawn.mark ?_); first | (refine Drawn.tree ?_; refine Tri.treeX [] (MX.mv 0 1 (MX.mv 0 2 (MX.mv 0 3 (MX.mv 2 0 (MX.mv 1 4 (MX.mv 1 5 (MX.mv 1 6 MX.done))))))) ?_ (by kernel_rfl) ?_; rfl) | refine Drawn.quiet (by kernel_rfl) ?_) | refine dcell_ok rfl ?_ | refine AppC.new ?_))
  all_goals first | (with_reducible refine enters_mark ?_; kernel_rfl) | (with_reducible refine boolT_mark ?_; kernel_rfl) | rfl | trivial | assumption | exact Nat.le_of_ble_eq_true rfl | (show entersB _ _ = true; kernel_rfl) | exact DW.same _ rfl | exact DW.ref _ _ _ rfl | exact DW.arr _ _ _ rfl | refine DW.int ?_ | refine dvb ?_ | refine dvi ?_ | exact OW.cells rfl rfl (DWl.same rfl) | exact Nat.zero_le _ | omega | skip
  all_goals repeat' (first | refine OW.cells rfl rfl ?_ | exact DW.nilArr _ rfl | refine DWl.cons ?_ ?_ | exact DWl.nil | exact DW.same _ rfl | exact DW.ref _ _ _ rfl | exact DW.arr _ _ _ rfl | exact DW.sub _ _ _ _ rfl | exact DW.nilLst _ | refine DW.aggl ?_ | refine DW.tupl ?_ | refine DW.clol ?_ ?_)
  all_goals try ((conv => whnf); with_reducible first | refine Round.mark ?_ | refine Tells.mark ?_ | refine Retold.mark ?_)
  all_goals try first | (show (_ : Bool) = _; simp_all; done) | (show (_ : Int) < _; simp at *; omega) | (show (_ : Int) ≤ _; simp at *; omega) | (show (_ : Nat) < _; simp at *; omega) | (show (_ : Nat) ≤ _; simp at *; omega)
  all_goals try first | exact h1.1 | exact h1.2 | exact h2.1 | exact h2.2 | exact h3.1 | exact h3.2 | exact (by decide : (0 : Int) ≤ 1) | exact (by decide : (1 : Int) < ((6 : Nat) : Int)) | exact sp_sz h1 | exact sp_sz h2 | exact sp_sz h3 | exact ad_sz (n := 8) (by decide) (by decide) h1 | exact ad_sz (n := 8 + 22) (addN_sz (n := 8) (by decide) h1) (by decide) h2 | exact ad_sz (n := 8 + 22 + 22) (addN_sz (n := 8 + 22) (addN_sz (n := 8) (by decide) h1) h2) (by decide) h3
  all_goals exact Tells.mk (DW.str rfl)
set_option maxRecDepth 20000 in
set_option maxHeartbeats 1000000 in
theorem line39_2 (fr til rate a b : Int) (h1 : I64 fr) (h2 : I64 til) (h3 : I64 rate) (_h4 : I64 a) (_h5 : I64 b) : DPure Tryd.prog 39 [.agg (mxD ⟨2, fr, til, rate, a, b⟩)] (strV (lineP ⟨2, fr, til, rate, a, b⟩)) := by
  refine DFun.data (DFun.body Tryd.func39 rfl (by kernel_rfl) ?_)
  repeat' (first | with_reducible rfl | ((conv => whnf); first | refine And.intro ?_ ?_ | (intro h; first | with_reducible exact tf_no h | with_reducible exact ft_no h | exact Bool.noConfusion h | with_reducible exact h | (exfalso; simp at h; done) | (have ht : true = true := h; clear ht h) | skip) | ((with_reducible refine DWl.mark ?_); repeat' (first | refine DWl.cons ?_ ?_ | exact DWl.nil | exact DW.same _ rfl | exact DW.ref _ _ _ rfl | exact DW.arr _ _ _ rfl | exact DW.sub _ _ _ _ rfl | exact DW.nilLst _ | refine DW.aggl ?_ | refine DW.tupl ?_ | refine DW.clol ?_ ?_ | refine DW.int ?_ | refine DW.bool ?_ | refine DW.str ?_)) | ((with_reducible refine SCall.mark ?_); first | refine SCall.run Tryd.func49 rfl (Nat.le_of_ble_eq_true rfl) (by kernel_rfl) ?_ | refine SCall.run Tryd.func54 rfl (Nat.le_of_ble_eq_true rfl) (by kernel_rfl) ?_ | refine SCall.data (itoa57_D _ ?_ ?_) rfl rfl ?_ | refine SCall.scal (itoa57_D _ ?_ ?_) rfl rfl ?_) | ((with_reducible refine PCall.mark ?_); first | refine PCall.mk (itoa57_D _ ?_ ?_) rfl rfl ?_) | ((with_reducible refine GCall.mark ?_); first | refine GCall.data (fun _ => itoa57_D _ ?_ ?_) rfl rfl ?_ | refine GCall.scal (fun _ => itoa57_D _ ?_ ?_) rfl rfl ?_) | ((with_reducible refine MCall.mark ?_); first | refine MCall.data (fun _ => itoa57_D _ ?_ ?_) rfl rfl ?_ | refine MCall.plain (PCall.mk (itoa57_D _ ?_ ?_) rfl rfl ?_)) | ((with_reducible refine Tri.mark ?_); first | (refine Tri.treeX [] (MX.mv 0 1 (MX.mv 0 2 (MX.mv 0 3 (MX.mv 2 0 (MX.mv 1 4 (MX.mv 1 5 (MX.mv 1 6 MX.done))))))) ?_ (by kernel_rfl) ?_; rfl) | refine Tri.rounds 5 (by kernel_rfl) ?_) | ((with_reducible refine ECall.mark ?_); first | refine ECall.only ?_ (fun h => nomatch h) | refine ECall.only ?_ ?_) | ((with_reducible refine Drawn.mark ?_); first | (refine Drawn.tree ?_; refine Tri.treeX [] (MX.mv 0 1 (MX.mv 0 2 (MX.mv 0 3 (MX.mv 2 0 (MX.mv 1 4 (MX.mv 1 5 (MX.mv 1 6 MX.done))))))) ?_ (by kernel_rfl) ?_; rfl) | refine Drawn.quiet (by kernel_rfl) ?_) | refine dcell_ok rfl ?_ | refine AppC.new ?_))
  all_goals first | (with_reducible refine enters_mark ?_; kernel_rfl) | (with_reducible refine boolT_mark ?_; kernel_rfl) | rfl | trivial | assumption | exact Nat.le_of_ble_eq_true rfl | (show entersB _ _ = true; kernel_rfl) | exact DW.same _ rfl | exact DW.ref _ _ _ rfl | exact DW.arr _ _ _ rfl | refine DW.int ?_ | refine dvb ?_ | refine dvi ?_ | exact OW.cells rfl rfl (DWl.same rfl) | exact Nat.zero_le _ | omega | skip
  all_goals repeat' (first | refine OW.cells rfl rfl ?_ | exact DW.nilArr _ rfl | refine DWl.cons ?_ ?_ | exact DWl.nil | exact DW.same _ rfl | exact DW.ref _ _ _ rfl | exact DW.arr _ _ _ rfl | exact DW.sub _ _ _ _ rfl | exact DW.nilLst _ | refine DW.aggl ?_ | refine DW.tupl ?_ | refine DW.clol ?_ ?_)
  all_goals try ((conv => whnf); with_reducible first | refine Round.mark ?_ | refine Tells.mark ?_ | refine Retold.mark ?_)
  all_goals try first | (show (_ : Bool) = _; simp_all; done) | (show (_ : Int) < _; simp at *; omega) | (show (_ : Int) ≤ _; simp at *; omega) | (show (_ : Nat) < _; simp at *; omega) | (show (_ : Nat) ≤ _; simp at *; omega)
  all_goals try first | exact h1.1 | exact h1.2 | exact h2.1 | exact h2.2 | exact h3.1 | exact h3.2 | exact (by decide : (0 : Int) ≤ 2) | exact (by decide : (2 : Int) < ((6 : Nat) : Int)) | exact sp_sz h1 | exact sp_sz h2 | exact sp_sz h3 | exact ad_sz (n := 8) (by decide) (by decide) h1 | exact ad_sz (n := 8 + 22) (addN_sz (n := 8) (by decide) h1) (by decide) h2 | exact ad_sz (n := 8 + 22 + 22) (addN_sz (n := 8 + 22) (addN_sz (n := 8) (by decide) h1) h2) (by decide) h3
  all_goals exact Tells.mk (DW.str rfl)
set_option maxRecDepth 20000 in
set_option maxHeartbeats 1000000 in
theorem line39_3 (fr til rate a b : Int) (h1 : I64 fr) (h2 : I64 til) (h3 : I64 rate) (_h4 : I64 a) (_h5 : I64 b) : DPure Tryd.prog 39 [.agg (mxD ⟨3, fr, til, rate, a, b⟩)] (strV (lineP ⟨3, fr, til, rate, a, b⟩)) := by
  refine DFun.data (DFun.body Tryd.func39 rfl (by kernel_rfl) ?_)
  repeat' (first | with_reducible rfl | ((conv => whnf); first | refine And.intro ?_ ?_ | (intro h; first | with_reducible exact tf_no h | with_reducible exact ft_no h | exact Bool.noConfusion h | with_reducible exact h | (exfalso; simp at h; done) | (have ht : true = true := h; clear ht h) | skip) | ((with_reducible refine DWl.mark ?_); repeat' (first | refine DWl.cons ?_ ?_ | exact DWl.nil | exact DW.same _ rfl | exact DW.ref _ _ _ rfl | exact DW.arr _ _ _ rfl | exact DW.sub _ _ _ _ rfl | exact DW.nilLst _ | refine DW.aggl ?_ | refine DW.tupl ?_ | refine DW.clol ?_ ?_ | refine DW.int ?_ | refine DW.bool ?_ | refine DW.str ?_)) | ((with_reducible refine SCall.mark ?_); first | refine SCall.run Tryd.func49 rfl (Nat.le_of_ble_eq_true rfl) (by kernel_rfl) ?_ | refine SCall.run Tryd.func54 rfl (Nat.le_of_ble_eq_true rfl) (by kernel_rfl) ?_ | refine SCall.data (itoa57_D _ ?_ ?_) rfl rfl ?_ | refine SCall.scal (itoa57_D _ ?_ ?_) rfl rfl ?_) | ((with_reducible refine PCall.mark ?_); first | refine PCall.mk (itoa57_D _ ?_ ?_) rfl rfl ?_) | ((with_reducible refine GCall.mark ?_); first | refine GCall.data (fun _ => itoa57_D _ ?_ ?_) rfl rfl ?_ | refine GCall.scal (fun _ => itoa57_D _ ?_ ?_) rfl rfl ?_) | ((with_reducible refine MCall.mark ?_); first | refine MCall.data (fun _ => itoa57_D _ ?_ ?_) rfl rfl ?_ | refine MCall.plain (PCall.mk (itoa57_D _ ?_ ?_) rfl rfl ?_)) | ((with_reducible refine Tri.mark ?_); first | (refine Tri.treeX [] (MX.mv 0 1 (MX.mv 0 2 (MX.mv 0 3 (MX.mv 2 0 (MX.mv 1 4 (MX.mv 1 5 (MX.mv 1 6 MX.done))))))) ?_ (by kernel_rfl) ?_; rfl) | refine Tri.rounds 5 (by kernel_rfl) ?_) | ((with_reducible refine ECall.mark ?_); first | refine ECall.only ?_ (fun h => nomatch h) | refine ECall.only ?_ ?_) | ((with_reducible refine Drawn.mark ?_); first | (refine Drawn.tree ?_; refine Tri.treeX [] (MX.mv 0 1 (MX.mv 0 2 (MX.mv 0 3 (MX.mv 2 0 (MX.mv 1 4 (MX.mv 1 5 (MX.mv 1 6 MX.done))))))) ?_ (by kernel_rfl) ?_; rfl) | refine Drawn.quiet (by kernel_rfl) ?_) | refine dcell_ok rfl ?_ | refine AppC.new ?_))
  all_goals first | (with_reducible refine enters_mark ?_; kernel_rfl) | (with_reducible refine boolT_mark ?_; kernel_rfl) | rfl | trivial | assumption | exact Nat.le_of_ble_eq_true rfl | (show entersB _ _ = true; kernel_rfl) | exact DW.same _ rfl | exact DW.ref _ _ _ rfl | exact DW.arr _ _ _ rfl | refine DW.int ?_ | refine dvb ?_ | refine dvi ?_ | exact OW.cells rfl rfl (DWl.same rfl) | exact Nat.zero_le _ | omega | skip
  all_goals repeat' (first | refine OW.cells rfl rfl ?_ | exact DW.nilArr _ rfl | refine DWl.cons ?_ ?_ | exact DWl.nil | exact DW.same _ rfl | exact DW.ref _ _ _ rfl | exact DW.arr _ _ _ rfl | exact DW.sub _ _ _ _ rfl | exact DW.nilLst _ | refine DW.aggl ?_ | refine DW.tupl ?_ | refine DW.clol ?_ ?_)
  all_goals try ((conv => whnf); with_reducible first | refine Round.mark ?_ | refine Tells.mark ?_ | refine Retold.mark ?_)
  all_goals try first | (show (_ : Bool) = _; simp_all; done) | (show (_ : Int) < _; simp at *; omega) | (show (_ : Int) ≤ _; simp at *; omega) | (show (_ : Nat) < _; simp at *; omega) | (show (_ : Nat) ≤ _; simp at *; omega)
  all_goals try first | exact h1.1 | exact h1.2 | exact h2.1 | exact h2.2 | exact h3.1 | exact h3.2 | exact (by decide : (0 : Int) ≤ 3) | exact (by decide : (3 : Int) < ((6 : Nat) : Int)) | exact sp_sz h1 | exact sp_sz h2 | exact sp_sz h3 | exact ad_sz (n := 8) (by decide) (by decide) h1 | exact ad_sz (n := 8 + 22) (addN_sz (n := 8) (by decide) h1) (by decide) h2 | exact ad_sz (n := 8 + 22 + 22) (addN_sz (n := 8 + 22) (addN_sz (n := 8) (by decide) h1) h2) (by decide) h3
  all_goals exact Tells.mk (DW.str rfl)
set_option maxRecDepth 20000 in
set_option maxHeartbeats 1000000 in
theorem line39_4 (fr til rate a b : Int) (h1 : I64 fr) (h2 : I64 til) (_h3 : I64 rate) (h4 : I64 a) (h5 : I64 b) : DPure Tryd.prog 39 [.agg (mxD ⟨4, fr, til, rate, a, b⟩)] (strV (lineP ⟨4, fr, til, rate, a, b⟩)) := by
  refine DFun.data (DFun.body Tryd.func39 rfl (by kernel_rfl) ?_)
  repeat' (first | with_reducible rfl | ((conv => whnf); first | refine And.intro ?_ ?_ | (intro h; first | with_reducible exact tf_no h | with_reducible exact ft_no h | exact Bool.noConfusion h | with_reducible exact h | (exfalso; simp at h; done) | (have ht : true = true := h; clear ht h) | skip) | ((with_reducible refine DWl.mark ?_); repeat' (first | refine DWl.cons ?_ ?_ | exact DWl.nil | exact DW.same _ rfl | exact DW.ref _ _ _ rfl | exact DW.arr _ _ _ rfl | exact DW.sub _ _ _ _ rfl | exact DW.nilLst _ | refine DW.aggl ?_ | refine DW.tupl ?_ | refine DW.clol ?_ ?_ | refine DW.int ?_ | refine DW.bool ?_ | refine DW.str ?_)) | ((with_reducible refine SCall.mark ?_); first | refine SCall.run Tryd.func49 rfl (Nat.le_of_ble_eq_true rfl) (by kernel_rfl) ?_ | refine SCall.run Tryd.func54 rfl (Nat.le_of_ble_eq_true rfl) (by kernel_rfl) ?_ | refine SCall.data (itoa57_D _ ?_ ?_) rfl rfl ?_ | refine SCall.scal (itoa57_D _ ?_ ?_) rfl rfl ?_) | ((with_reducible refine PCall.mark ?_); first | refine PCall.mk (itoa57_D _ ?_ ?_) rfl rfl ?_) | ((with_reducible refine GCall.mark ?_); first | refine GCall.data (fun _ => itoa57_D _ ?_ ?_) rfl rfl ?_ | refine GCall.scal (fun _ => itoa57_D _ ?_ ?_) rfl rfl ?_) | ((with_reducible refine MCall.mark ?_); first | refine MCall.data (fun _ => itoa57_D _ ?_ ?_) rfl rfl ?_ | refine MCall.plain (PCall.mk (itoa57_D _ ?_ ?_) rfl rfl ?_)) | ((with_reducible refine Tri.mark ?_); first | (refine Tri.treeX [] (MX.mv 0 1 (MX.mv 0 2 (MX.mv 0 3 (MX.mv 2 0 (MX.mv 1 4 (MX.mv 1 5 (MX.mv 1 6 MX.done))))))) ?_ (by kernel_rfl) ?_; rfl) | refine Tri.rounds 5 (by kernel_rfl) ?_) | ((with_reducible refine ECall.mark ?_); first | refine ECall.only ?_ (fun h => nomatch h) | refine ECall.only ?_ ?_) | ((with_reducible refine Drawn.mark ?_); first | (refine Drawn.tree ?_; refine Tri.treeX [] (MX.mv 0 1 (MX.mv 0 2 (MX.mv 0 3 (MX.mv 2 0 (MX.mv 1 4 (MX.mv 1 5 (MX.mv 1 6 MX.done))))))) ?_ (by kernel_rfl) ?_; rfl) | refine Drawn.quiet (by kernel_rfl) ?_) | refine dcell_ok rfl ?_ | refine AppC.new ?_))
  all_goals first | (with_reducible refine enters_mark ?_; kernel_rfl) | (with_reducible refine boolT_mark ?_; kernel_rfl) | rfl | trivial | assumption | exact Nat.le_of_ble_eq_true rfl | (show entersB _ _ = true; kernel_rfl) | exact DW.same _ rfl | exact DW.ref _ _ _ rfl | exact DW.arr _ _ _ rfl | refine DW.int ?_ | refine dvb ?_ | refine dvi ?_ | exact OW.cells rfl rfl (DWl.same rfl) | exact Nat.zero_le _ | omega | skip
  all_goals repeat' (first | refine OW.cells rfl rfl ?_ | exact DW.nilArr _ rfl | refine DWl.cons ?_ ?_ | exact DWl.nil | exact DW.same _ rfl | exact DW.ref _ _ _ rfl | exact DW.arr _ _ _ rfl | exact DW.sub _ _ _ _ rfl | exact DW.nilLst _ | refine DW.aggl ?_ | refine DW.tupl ?_ | refine DW.clol ?_ ?_)
  all_goals try ((conv => whnf); with_reducible first | refine Round.mark ?_ | refine Tells.mark ?_ | refine Retold.mark ?_)
  all_goals try first | (show (_ : Bool) = _; simp_all; done) | (show (_ : Int) < _; simp at *; omega) | (show (_ : Int) ≤ _; simp at *; omega) | (show (_ : Nat) < _; simp at *; omega) | (show (_ : Nat) ≤ _; simp at *; omega)
  all_goals try first | exact h1.1 | exact h1.2 | exact h2.1 | exact h2.2 | exact h4.1 | exact h4.2 | exact h5.1 | exact h5.2 | exact (by decide : (0 : Int) ≤ 4) | exact (by decide : (4 : Int) < ((6 : Nat) : Int)) | exact sp_sz h1 | exact sp_sz h2 | exact sp_sz h4 | exact sp_sz h5 | exact ad_sz (n := 8) (by decide) (by decide) h1 | exact ad_sz (n := 8 + 22) (addN_sz (n := 8) (by decide) h1) (by decide) h2 | exact ad_sz (n := 8 + 22 + 22) (addN_sz (n := 8 + 22) (addN_sz (n := 8) (by decide) h1) h2) (by decide) h4 | exact ad_sz (n := 8 + 22 + 22 + 22) (addN_sz (n := 8 + 22 + 22) (addN_sz (n := 8 + 22) (addN_sz (n := 8) (by decide) h1) h2) h4) (by decide) h5
  all_goals exact Tells.mk (DW.str rfl)
set_option maxRecDepth 20000 in
set_option maxHeartbeats 1000000 in
theorem line39_5 (fr til rate a b : Int) (h1 : I64 fr) (h2 : I64 til) (_h3 : I64 rate) (h4 : I64 a) (_h5 : I64 b) : DPure Tryd.prog 39 [.agg (mxD ⟨5, fr, til, rate, a, b⟩)] (strV (lineP ⟨5, fr, til, rate, a, b⟩)) := by
  refine DFun.data (DFun.body Tryd.func39 rfl (by kernel_rfl) ?_)
  repeat' (first | with_reducible rfl | ((conv => whnf); first | refine And.intro ?_ ?_ | (intro h; first | with_reducible exact tf_no h | with_reducible exact ft_no h | exact Bool.noConfusion h | with_reducible exact h | (exfalso; simp at h; done) | (have ht : true = true := h; clear ht h) | skip) | ((with_reducible refine DWl.mark ?_); repeat' (first | refine DWl.cons ?_ ?_ | exact DWl.nil | exact DW.same _ rfl | exact DW.ref _ _ _ rfl | exact DW.arr _ _ _ rfl | exact DW.sub _ _ _ _ rfl | exact DW.nilLst _ | refine DW.aggl ?_ | refine DW.tupl ?_ | refine DW.clol ?_ ?_ | refine DW.int ?_ | refine DW.bool ?_ | refine DW.str ?_)) | ((with_reducible refine SCall.mark ?_); first | refine SCall.run Tryd.func49 rfl (Nat.le_of_ble_eq_true rfl) (by kernel_rfl) ?_ | refine SCall.run Tryd.func54 rfl (Nat.le_of_ble_eq_true rfl) (by kernel_rfl) ?_ | refine SCall.data (itoa57_D _ ?_ ?_) rfl rfl ?_ | refine SCall.scal (itoa57_D _ ?_ ?_) rfl rfl ?_) | ((with_reducible refine PCall.mark ?_); first | refine PCall.mk (itoa57_D _ ?_ ?_) rfl rfl ?_) | ((with_reducible refine GCall.mark ?_); first | refine GCall.data (fun _ => itoa57_D _ ?_ ?_) rfl rfl ?_ | refine GCall.scal (fun _ => itoa57_D _ ?_ ?_) rfl rfl ?_) | ((with_reducible refine MCall.mark ?_); first | refine MCall.data (fun _ => itoa57_D _ ?_ ?_) rfl rfl ?_ | refine MCall.plain (PCall.mk (itoa57_D _ ?_ ?_) rfl rfl ?_)) | ((with_reducible refine Tri.mark ?_); first | (refine Tri.treeX [] (MX.mv 0 1 (MX.mv 0 2 (MX.mv 0 3 (MX.mv 2 0 (MX.mv 1 4 (MX.mv 1 5 (MX.mv 1 6 MX.done))))))) ?_ (by kernel_rfl) ?_; rfl) | refine Tri.rounds 5 (by kernel_rfl) ?_) | ((with_reducible refine ECall.mark ?_); first | refine ECall.only ?_ (fun h => nomatch h) | refine ECall.only ?_ ?_) | ((with_reducible refine Drawn.mark ?_); first | (refine Drawn.tree ?_; refine Tri.treeX [] (MX.mv 0 1 (MX.mv 0 2 (MX.mv 0 3 (MX.mv 2 0 (MX.mv 1 4 (MX.mv 1 5 (MX.mv 1 6 MX.done))))))) ?_ (by kernel_rfl) ?_; rfl) | refine Drawn.quiet (by kernel_rfl) ?_) | refine dcell_ok rfl ?_ | refine AppC.new ?_))
  all_goals first | (with_reducible refine enters_mark ?_; kernel_rfl) | (with_reducible refine boolT_mark ?_; kernel_rfl) | rfl | trivial | assumption | exact Nat.le_of_ble_eq_true rfl | (show entersB _ _ = true; kernel_rfl) | exact DW.same _ rfl | exact DW.ref _ _ _ rfl | exact DW.arr _ _ _ rfl | refine DW.int ?_ | refine dvb ?_ | refine dvi ?_ | exact OW.cells rfl rfl (DWl.same rfl) | exact Nat.zero_le _ | omega | skip
  all_goals repeat' (first | refine OW.cells rfl rfl ?_ | exact DW.nilArr _ rfl | refine DWl.cons ?_ ?_ | exact DWl.nil | exact DW.same _ rfl | exact DW.ref _ _ _ rfl | exact DW.arr _ _ _ rfl | exact DW.sub _ _ _ _ rfl | exact DW.nilLst _ | refine DW.aggl ?_ | refine DW.tupl ?_ | refine DW.clol ?_ ?_)
  all_goals try ((conv => whnf); with_reducible first | refine Round.mark ?_ | refine Tells.mark ?_ | refine Retold.mark ?_)
  all_goals try first | (show (_ : Bool) = _; simp_all; done) | (show (_ : Int) < _; simp at *; omega) | (show (_ : Int) ≤ _; simp at *; omega) | (show (_ : Nat) < _; simp at *; omega) | (show (_ : Nat) ≤ _; simp at *; omega)
  all_goals try first | exact h1.1 | exact h1.2 | exact h2.1 | exact h2.2 | exact h4.1 | exact h4.2 | exact (by decide : (0 : Int) ≤ 5) | exact (by decide : (5 : Int) < ((6 : Nat) : Int)) | exact sp_sz h1 | exact sp_sz h2 | exact sp_sz h4 | exact ad_sz (n := 8) (by decide) (by decide) h1 | exact ad_sz (n := 8 + 22) (addN_sz (n := 8) (by decide) h1) (by decide) h2 | exact ad_sz (n := 8 + 22 + 22) (addN_sz (n := 8 + 22) (addN_sz (n := 8) (by decide) h1) h2) (by decide) h4
  all_goals exact Tells.mk (DW.str rfl)
theorem ent_i64 {m : Mx} (h : EntP 16 m) : I64 m.fr ∧ I64 m.til ∧ I64 m.rate ∧ I64 m.a ∧ I64 m.b := by
  obtain ⟨h1, h2, h3, h4, h5⟩ := h
  refine ⟨⟨?_, ?_⟩, ⟨?_, ?_⟩, ⟨?_, ?_⟩, ⟨?_, ?_⟩, ⟨?_, ?_⟩⟩ <;> omega
theorem ent_kind {n : Int} {m : Mx} (h : EntP n m) : m.kind = 1 ∨ m.kind = 2 ∨ m.kind = 3 ∨ m.kind = 4 ∨ m.kind = 5 := by
  obtain ⟨h1, h2, h3, h4, h5⟩ := h
  omega
theorem line39_D (m : Mx) (hk : m.kind = 1 ∨ m.kind = 2 ∨ m.kind = 3 ∨ m.kind = 4 ∨ m.kind = 5) (h : I64 m.fr ∧ I64 m.til ∧ I64 m.rate ∧ I64 m.a ∧ I64 m.b) : DPure Tryd.prog 39 [.agg (mxD m)] (strV (lineP m)) := by
  obtain ⟨kd, fr, til, rate, a, b⟩ := m
  obtain ⟨h1, h2, h3, h4, h5⟩ := h
  simp only at hk h1 h2 h3 h4 h5
  rcases hk with rfl | rfl | rfl | rfl | rfl
  · exact line39_1 fr til rate a b h1 h2 h3 h4 h5
  · exact line39_2 fr til rate a b h1 h2 h3 h4 h5
  · exact line39_3 fr til rate a b h1 h2 h3 h4 h5
  · exact line39_4 fr til rate a b h1 h2 h3 h4 h5
  · exact line39_5 fr til rate a b h1 h2 h3 h4 h5
theorem wordK_sz (k : Int) : (wordK k).size ≤ 8 := by
  unfold wordK
  split
  · decide
  · split
    · decide
    · split
      · decide
      · split <;> decide
theorem lineP_sz {m : Mx} (h : EntP 16 m) : (lineP m).size ≤ 96 := by
  obtain ⟨h1, h2, h3, h4, h5⟩ := ent_i64 h
  have hw := wordK_sz m.kind
  unfold lineP lineN
  split
  · exact addN_sz (n := 74) (addN_sz (n := 52) (addN_sz (n := 30) (addN_sz hw h1) h2) h4) h5
  · split
    · exact Nat.le_trans (addN_sz (n := 52) (addN_sz (n := 30) (addN_sz hw h1) h2) h4) (by decide)
    · exact Nat.le_trans (addN_sz (n := 52) (addN_sz (n := 30) (addN_sz hw h1) h2) h3) (by decide)
def addL (s : ByteArray) (m : Mx) : ByteArray := s ++ (lineP m ++ lineB)
def textF (l : List Mx) : ByteArray := l.foldl addL ByteArray.empty
noncomputable def textT (l : List Mx) : ByteArray := if fitB 16 l = true then textF l else ByteArray.empty
theorem text_succ {l : List Mx} {k : Nat} (hk : k < l.length) : textF (l.take (k + 1)) = addL (textF (l.take k)) (l.getD k mx0) := by
  rw [take_succ (d := mx0) hk, textF, List.foldl_append]; rfl
theorem text_sz {l : List Mx} (hf : FitP 16 l) : ∀ k : Nat, k ≤ l.length → (textF (l.take k)).size ≤ k * 97 := by
  intro k
  induction k with
  | zero => intro _; rw [List.take_zero]; exact Nat.le_refl _
  | succ k ih =>
    intro hk
    have h1 := ih (by omega)
    have h2 := lineP_sz (hf.2.2.2 k hk)
    rw [text_succ hk, addL, ByteArray.size_append, ByteArray.size_append, show lineB.size = 1 from rfl]
    omega
theorem fit_yes {n : Int} {l : List Mx} (h : (!fitB n l) = false) : FitP n l := by
  have : fitB n l = true := by simpa using h
  exact of_decide_eq_true this
def tx20 (l : List Mx) (k : Nat × ByteArray) : St := ⟨0, tmOf [(3, strV k.2), (9, mxs l), (10, int1 l.length), (11, int1 k.1)], .of [] 0⟩
theorem line39_E (m : Mx) (h : EntP 16 m) : DPure Tryd.prog 39 [.agg (mxD m)] (strV (lineP m)) := line39_D m (ent_kind h) (ent_i64 h)
theorem ent_at {n : Int} {l : List Mx} {k : Nat} (hf : FitP n l) (hk : k < l.length) : EntP n (l.getD (((k : Nat) : Int)).toNat mx0) := by rw [Int.toNat_natCast]; exact hf.2.2.2 k hk
theorem ln_sz {m : Mx} (h : EntP 16 m) : (lineP m).size + lineB.size ≤ 9223372036854775807 := by
  have := lineP_sz h
  rw [show lineB.size = 1 from rfl]; omega
theorem tx_sz {m : Mx} {l : List Mx} {k : Nat} {s : ByteArray} (h : EntP 16 m) (hf : FitP 16 l) (hk : k ≤ l.length) (hs : s = textF (l.take k)) : s.size + (lineP m ++ lineB).size ≤ 9223372036854775807 := by
  have h1 := lineP_sz h
  have h2 := text_sz hf k hk
  have h3 := hf.2.2.1
  rw [hs, ByteArray.size_append, show lineB.size = 1 from rfl]; omega
theorem tx_next {l : List Mx} {k : Nat} {s : ByteArray} (hk : k < l.length) (hs : s = textF (l.take k)) : s ++ (lineP (l.getD (((k : Nat) : Int)).toNat mx0) ++ lineB) = textF (l.take (k + 1)) := by
  rw [text_succ hk, Int.toNat_natCast, hs]; rfl
theorem text_no {l : List Mx} (h : (!fitB 16 l) = true) : textT l = ByteArray.empty := by
  rw [textT, if_neg (by simpa using h)]
theorem text_yes {l : List Mx} (h : (!fitB 16 l) = false) : textT l = textF l := by
  rw [textT, if_pos (by simpa using h)]
theorem text_zero (l : List Mx) : ByteArray.empty = textF (l.take 0) := rfl
attribute [local irreducible] lineP textF fitB IntKind.wrap EntP textT
set_option maxRecDepth 20000 in
theorem text20_D (l : List Mx) : DPure Tryd.prog 20 [mxs l] (strV (textT l)) := by
  refine DFun.data (DFun.body Tryd.func20 rfl (by kernel_rfl) ?_)
  repeat' (first | with_reducible rfl | ((conv => whnf); first | refine And.intro ?_ ?_ | (intro h; first | with_reducible exact tf_no h | with_reducible exact ft_no h | exact Bool.noConfusion h | with_reducible exact h | (have ht : true = true := h; clear ht h) | skip) | ((with_reducible refine DWl.mark ?_); repeat' (first | refine DWl.cons ?_ ?_ | exact DWl.nil | exact DW.same _ rfl | exact DW.ref _ _ _ rfl | exact DW.arr _ _ _ rfl | exact DW.sub _ _ _ _ rfl | exact DW.nilLst _ | refine DW.aggl ?_ | refine DW.tupl ?_ | refine DW.clol ?_ ?_ | refine DW.int ?_ | refine DW.bool ?_ | refine DW.str ?_)) | ((with_reducible refine SCall.mark ?_); first | refine SCall.data (fit8_D 16 l) rfl rfl ?_ | refine SCall.scal (fit8_D 16 l) rfl rfl ?_ | refine SCall.data (line39_E _ ?_) rfl rfl ?_ | refine SCall.scal (line39_E _ ?_) rfl rfl ?_) | ((with_reducible refine PCall.mark ?_); first | refine PCall.mk (fit8_D 16 l) rfl rfl ?_ | refine PCall.mk (line39_E _ ?_) rfl rfl ?_) | ((with_reducible refine GCall.mark ?_); first | refine GCall.data (fun _ => fit8_D 16 l) rfl rfl ?_ | refine GCall.scal (fun _ => fit8_D 16 l) rfl rfl ?_ | refine GCall.data (fun _ => line39_E _ ?_) rfl rfl ?_ | refine GCall.scal (fun _ => line39_E _ ?_) rfl rfl ?_) | ((with_reducible refine MCall.mark ?_); first | refine MCall.data (fun _ => fit8_D 16 l) rfl rfl ?_ | refine MCall.plain (PCall.mk (fit8_D 16 l) rfl rfl ?_) | refine MCall.data (fun _ => line39_E _ ?_) rfl rfl ?_ | refine MCall.plain (PCall.mk (line39_E _ ?_) rfl rfl ?_)) | ((with_reducible refine Tri.mark ?_); first | refine Tri.loop (tx20 l) (fun k => k.1 ≤ l.length ∧ k.2 = textF (l.take k.1)) (fun k => l.length - k.1) (0, ByteArray.empty) (by kernel_rfl) (Weak.list [] [] (by kernel_rfl) ?_ ?_) ?_ ?_) | ((with_reducible refine ECall.mark ?_); first | refine ECall.only ?_ (fun h => nomatch h) | refine ECall.only ?_ ?_) | ((with_reducible refine Drawn.mark ?_); first | refine Drawn.quiet (by kernel_rfl) ?_) | refine dloadE_map (mx0) ?_ ?_ | refine dcell_ok rfl ?_ | refine AppC.new ?_))
  all_goals first | (with_reducible refine enters_mark ?_; kernel_rfl) | (with_reducible refine boolT_mark ?_; kernel_rfl) | rfl | trivial | assumption | exact Nat.le_of_ble_eq_true rfl | (show entersB _ _ = true; kernel_rfl) | exact DW.same _ rfl | exact DW.ref _ _ _ rfl | exact DW.arr _ _ _ rfl | refine DW.int ?_ | refine dvb ?_ | refine dvi ?_ | exact OW.cells rfl rfl (DWl.same rfl) | exact Nat.zero_le _ | omega | skip
  all_goals repeat' (first | refine OW.cells rfl rfl ?_ | exact DW.nilArr _ rfl | refine DWl.cons ?_ ?_ | exact DWl.nil | exact DW.same _ rfl | exact DW.ref _ _ _ rfl | exact DW.arr _ _ _ rfl | exact DW.sub _ _ _ _ rfl | exact DW.nilLst _ | refine DW.aggl ?_ | refine DW.tupl ?_ | refine DW.clol ?_ ?_)
  all_goals try ((conv => whnf); with_reducible first | refine Round.mark ?_ | refine Tells.mark ?_ | refine Retold.mark ?_)
  all_goals try first | (show (_ : Bool) = _; simp_all; done) | (show (_ : Int) < _; simp at *; omega) | (show (_ : Int) ≤ _; simp at *; omega) | (show (_ : Nat) < _; simp at *; omega) | (show (_ : Nat) ≤ _; simp at *; omega)
  · exact Tells.mk (DW.str (text_no h).symm)
  · simp
  · exact text_zero l
  · rename_i k hk
    exact ent_at (fit_yes ‹(!fitB 16 l) = false›) (lt_int h)
  · rename_i k hk
    exact ln_sz (ent_at (fit_yes ‹(!fitB 16 l) = false›) (lt_int h))
  · rename_i k hk
    exact tx_sz (ent_at (fit_yes ‹(!fitB 16 l) = false›) (lt_int h)) (fit_yes ‹(!fitB 16 l) = false›) hk.1 hk.2
  · rename_i k hk
    have hlt := lt_int h
    have hl := (fit_yes ‹(!fitB 16 l) = false›).2.2.1
    refine Round.go (fun _ => (k.1 + 1, k.2 ++ (lineP (l.getD (((k.1 : Nat) : Int)).toNat mx0) ++ lineB))) ⟨hlt, tx_next hlt hk.2⟩ (by show l.length - (k.1 + 1) < l.length - k.1; omega) (Weak.list [] [] (by kernel_rfl) ?_ ?_)
    · repeat' (first | exact wsucc hlt (by omega) | exact DW.same _ rfl | exact DW.ref _ _ _ rfl | exact DW.arr _ _ _ rfl | exact OW.cells rfl rfl (DWl.same rfl) | refine OW.cells rfl rfl ?_ | refine DWl.cons ?_ ?_ | exact DWl.nil | exact DW.nilArr _ rfl | exact DW.nilLst _ | refine DW.clol ?_ ?_ | refine DW.aggl ?_ | refine DW.tupl ?_ | refine DW.int ?_ | refine DW.bool ?_ | refine DW.str ?_ | refine DW.arrE rfl ?_ | ((conv => whnf); first | refine And.intro ?_ ?_ | trivial))
    · repeat' (first | exact wsucc hlt (by omega) | exact DW.same _ rfl | exact DW.ref _ _ _ rfl | exact DW.arr _ _ _ rfl | exact OW.cells rfl rfl (DWl.same rfl) | refine OW.cells rfl rfl ?_ | refine DWl.cons ?_ ?_ | exact DWl.nil | exact DW.nilArr _ rfl | exact DW.nilLst _ | refine DW.clol ?_ ?_ | refine DW.aggl ?_ | refine DW.tupl ?_ | refine DW.int ?_ | refine DW.bool ?_ | refine DW.str ?_ | refine DW.arrE rfl ?_ | ((conv => whnf); first | refine And.intro ?_ ?_ | trivial))
  · rename_i k hk
    have hge := ge_int h
    have e4 : k.2 = textT l := by rw [text_yes ‹(!fitB 16 l) = false›, hk.2, List.take_of_length_le hge]
    conv => whnf
    exact Tells.mk (DW.str e4)
end Go.Proofs.YtgaghkchdiepoaaDoor

/- Lines of a plan written: the document's. -/
namespace Go.Proofs.YtgaghkchdiepoaaDoor
open Go.RowKit Go.Dl
attribute [local irreducible] Tri SCall TSem ECall Drawn DFun QSem PSem PCall GCall MCall Round Weak dloadE OW DWl Tells IntKind.wrap Retold ESem
theorem num58_D (n : Int) (h : I64 n) : DPure Tryd.prog 58 [int1 n] (strV (numB n)) := by
  have hf := itoa57_D n h.1 h.2
  refine DFun.data (DFun.body Tryd.func58 rfl (by kernel_rfl) ?_)
  repeat' (first | with_reducible rfl | ((conv => whnf); first | refine And.intro ?_ ?_ | (intro h; first | with_reducible exact tf_no h | with_reducible exact ft_no h | exact Bool.noConfusion h | with_reducible exact h | (have ht : true = true := h; clear ht h) | skip) | ((with_reducible refine DWl.mark ?_); repeat' (first | refine DWl.cons ?_ ?_ | exact DWl.nil | exact DW.same _ rfl | exact DW.ref _ _ _ rfl | exact DW.arr _ _ _ rfl | exact DW.sub _ _ _ _ rfl | exact DW.nilLst _ | refine DW.aggl ?_ | refine DW.tupl ?_ | refine DW.clol ?_ ?_ | refine DW.int ?_ | refine DW.bool ?_ | refine DW.str ?_)) | ((with_reducible refine SCall.mark ?_); first | refine SCall.data (hf) rfl rfl ?_ | refine SCall.scal (hf) rfl rfl ?_) | ((with_reducible refine PCall.mark ?_); first | refine PCall.mk (hf) rfl rfl ?_) | ((with_reducible refine GCall.mark ?_); first | refine GCall.data (fun _ => hf) rfl rfl ?_ | refine GCall.scal (fun _ => hf) rfl rfl ?_) | ((with_reducible refine MCall.mark ?_); first | refine MCall.data (fun _ => hf) rfl rfl ?_ | refine MCall.plain (PCall.mk (hf) rfl rfl ?_)) | ((with_reducible refine ECall.mark ?_); first | refine ECall.only ?_ (fun h => nomatch h) | refine ECall.only ?_ ?_) | ((with_reducible refine Drawn.mark ?_); first | refine Drawn.quiet (by kernel_rfl) ?_) | refine dcell_ok rfl ?_ | refine AppC.new ?_))
  all_goals first | (with_reducible refine enters_mark ?_; kernel_rfl) | (with_reducible refine boolT_mark ?_; kernel_rfl) | rfl | trivial | assumption | exact Nat.le_of_ble_eq_true rfl | (show entersB _ _ = true; kernel_rfl) | exact DW.same _ rfl | exact DW.ref _ _ _ rfl | exact DW.arr _ _ _ rfl | refine DW.int ?_ | refine dvb ?_ | refine dvi ?_ | exact OW.cells rfl rfl (DWl.same rfl) | exact Nat.zero_le _ | omega | skip
  all_goals repeat' (first | refine OW.cells rfl rfl ?_ | exact DW.nilArr _ rfl | refine DWl.cons ?_ ?_ | exact DWl.nil | exact DW.same _ rfl | exact DW.ref _ _ _ rfl | exact DW.arr _ _ _ rfl | exact DW.sub _ _ _ _ rfl | exact DW.nilLst _ | refine DW.aggl ?_ | refine DW.tupl ?_ | refine DW.clol ?_ ?_)
  all_goals try ((conv => whnf); with_reducible first | refine Round.mark ?_ | refine Tells.mark ?_ | refine Retold.mark ?_)
  all_goals try first | (show (_ : Bool) = _; simp_all; done) | (show (_ : Int) < _; simp at *; omega) | (show (_ : Int) ≤ _; simp at *; omega) | (show (_ : Nat) < _; simp at *; omega) | (show (_ : Nat) ≤ _; simp at *; omega)
  conv => whnf
  exact Tells.mk (DW.str rfl)
theorem baSize (l : Array UInt8) : (ByteArray.mk l).size = l.size := rfl
attribute [local irreducible] I64
theorem lineP_1 (fr til rate a b : Int) : lineP ⟨1, fr, til, rate, a, b⟩ = addN (addN (addN wDrop fr) til) rate := rfl
set_option maxRecDepth 20000 in
set_option maxHeartbeats 1000000 in
theorem line40_1 (fr til rate a b : Int) (h1 : I64 fr) (h2 : I64 til) (h3 : I64 rate) (h4 : I64 a) (h5 : I64 b) : DPure Tryd.prog 40 [.agg (mxD ⟨1, fr, til, rate, a, b⟩)] (strV (lineP ⟨1, fr, til, rate, a, b⟩)) := by
  have s1 := num_sz h1
  have s2 := num_sz h2
  have s3 := num_sz h3
  have s4 := num_sz h4
  have s5 := num_sz h5
  refine DFun.data (DFun.body Tryd.func40 rfl (by kernel_rfl) ?_)
  repeat' (first | with_reducible rfl | ((conv => whnf); first | refine And.intro ?_ ?_ | (intro h; first | with_reducible exact tf_no h | with_reducible exact ft_no h | exact Bool.noConfusion h | with_reducible exact h | (exfalso; simp at h; done) | (have ht : true = true := h; clear ht h) | skip) | ((with_reducible refine DWl.mark ?_); repeat' (first | refine DWl.cons ?_ ?_ | exact DWl.nil | exact DW.same _ rfl | exact DW.ref _ _ _ rfl | exact DW.arr _ _ _ rfl | exact DW.sub _ _ _ _ rfl | exact DW.nilLst _ | refine DW.aggl ?_ | refine DW.tupl ?_ | refine DW.clol ?_ ?_ | refine DW.int ?_ | refine DW.bool ?_ | refine DW.str ?_)) | ((with_reducible refine SCall.mark ?_); first | refine SCall.data (num58_D _ ?_) rfl rfl ?_ | refine SCall.scal (num58_D _ ?_) rfl rfl ?_) | ((with_reducible refine PCall.mark ?_); first | refine PCall.mk (num58_D _ ?_) rfl rfl ?_) | ((with_reducible refine GCall.mark ?_); first | refine GCall.data (fun _ => num58_D _ ?_) rfl rfl ?_ | refine GCall.scal (fun _ => num58_D _ ?_) rfl rfl ?_) | ((with_reducible refine MCall.mark ?_); first | refine MCall.data (fun _ => num58_D _ ?_) rfl rfl ?_ | refine MCall.plain (PCall.mk (num58_D _ ?_) rfl rfl ?_)) | ((with_reducible refine ECall.mark ?_); first | refine ECall.only ?_ (fun h => nomatch h) | refine ECall.only ?_ ?_) | ((with_reducible refine Drawn.mark ?_); first | refine Drawn.quiet (by kernel_rfl) ?_) | refine dcell_ok rfl ?_ | refine AppC.new ?_))
  all_goals first | (with_reducible refine enters_mark ?_; kernel_rfl) | (with_reducible refine boolT_mark ?_; kernel_rfl) | rfl | trivial | assumption | exact Nat.le_of_ble_eq_true rfl | (show entersB _ _ = true; kernel_rfl) | exact DW.same _ rfl | exact DW.ref _ _ _ rfl | exact DW.arr _ _ _ rfl | refine DW.int ?_ | refine dvb ?_ | refine dvi ?_ | exact OW.cells rfl rfl (DWl.same rfl) | exact Nat.zero_le _ | omega | skip
  all_goals repeat' (first | refine OW.cells rfl rfl ?_ | exact DW.nilArr _ rfl | refine DWl.cons ?_ ?_ | exact DWl.nil | exact DW.same _ rfl | exact DW.ref _ _ _ rfl | exact DW.arr _ _ _ rfl | exact DW.sub _ _ _ _ rfl | exact DW.nilLst _ | refine DW.aggl ?_ | refine DW.tupl ?_ | refine DW.clol ?_ ?_)
  all_goals try ((conv => whnf); with_reducible first | refine Round.mark ?_ | refine Tells.mark ?_ | refine Retold.mark ?_)
  all_goals try first | (show (_ : Bool) = _; simp_all; done) | (show (_ : Int) < _; simp at *; omega) | (show (_ : Int) ≤ _; simp at *; omega) | (show (_ : Nat) < _; simp at *; omega) | (show (_ : Nat) ≤ _; simp at *; omega)
  all_goals try first | exact h1 | exact h2 | exact h3 | exact h4 | exact h5 | (simp only [ByteArray.size_append, baSize, List.size_toArray, List.length_cons, List.length_nil]; omega)
  conv => whnf
  refine Tells.mk (DW.str ?_)
  rw [lineP_1]
  simp only [addN, ByteArray.append_assoc]
  rfl
theorem lineP_2 (fr til rate a b : Int) : lineP ⟨2, fr, til, rate, a, b⟩ = addN (addN (addN wDouble fr) til) rate := rfl
set_option maxRecDepth 20000 in
set_option maxHeartbeats 1000000 in
theorem line40_2 (fr til rate a b : Int) (h1 : I64 fr) (h2 : I64 til) (h3 : I64 rate) (h4 : I64 a) (h5 : I64 b) : DPure Tryd.prog 40 [.agg (mxD ⟨2, fr, til, rate, a, b⟩)] (strV (lineP ⟨2, fr, til, rate, a, b⟩)) := by
  have s1 := num_sz h1
  have s2 := num_sz h2
  have s3 := num_sz h3
  have s4 := num_sz h4
  have s5 := num_sz h5
  refine DFun.data (DFun.body Tryd.func40 rfl (by kernel_rfl) ?_)
  repeat' (first | with_reducible rfl | ((conv => whnf); first | refine And.intro ?_ ?_ | (intro h; first | with_reducible exact tf_no h | with_reducible exact ft_no h | exact Bool.noConfusion h | with_reducible exact h | (exfalso; simp at h; done) | (have ht : true = true := h; clear ht h) | skip) | ((with_reducible refine DWl.mark ?_); repeat' (first | refine DWl.cons ?_ ?_ | exact DWl.nil | exact DW.same _ rfl | exact DW.ref _ _ _ rfl | exact DW.arr _ _ _ rfl | exact DW.sub _ _ _ _ rfl | exact DW.nilLst _ | refine DW.aggl ?_ | refine DW.tupl ?_ | refine DW.clol ?_ ?_ | refine DW.int ?_ | refine DW.bool ?_ | refine DW.str ?_)) | ((with_reducible refine SCall.mark ?_); first | refine SCall.data (num58_D _ ?_) rfl rfl ?_ | refine SCall.scal (num58_D _ ?_) rfl rfl ?_) | ((with_reducible refine PCall.mark ?_); first | refine PCall.mk (num58_D _ ?_) rfl rfl ?_) | ((with_reducible refine GCall.mark ?_); first | refine GCall.data (fun _ => num58_D _ ?_) rfl rfl ?_ | refine GCall.scal (fun _ => num58_D _ ?_) rfl rfl ?_) | ((with_reducible refine MCall.mark ?_); first | refine MCall.data (fun _ => num58_D _ ?_) rfl rfl ?_ | refine MCall.plain (PCall.mk (num58_D _ ?_) rfl rfl ?_)) | ((with_reducible refine ECall.mark ?_); first | refine ECall.only ?_ (fun h => nomatch h) | refine ECall.only ?_ ?_) | ((with_reducible refine Drawn.mark ?_); first | refine Drawn.quiet (by kernel_rfl) ?_) | refine dcell_ok rfl ?_ | refine AppC.new ?_))
  all_goals first | (with_reducible refine enters_mark ?_; kernel_rfl) | (with_reducible refine boolT_mark ?_; kernel_rfl) | rfl | trivial | assumption | exact Nat.le_of_ble_eq_true rfl | (show entersB _ _ = true; kernel_rfl) | exact DW.same _ rfl | exact DW.ref _ _ _ rfl | exact DW.arr _ _ _ rfl | refine DW.int ?_ | refine dvb ?_ | refine dvi ?_ | exact OW.cells rfl rfl (DWl.same rfl) | exact Nat.zero_le _ | omega | skip
  all_goals repeat' (first | refine OW.cells rfl rfl ?_ | exact DW.nilArr _ rfl | refine DWl.cons ?_ ?_ | exact DWl.nil | exact DW.same _ rfl | exact DW.ref _ _ _ rfl | exact DW.arr _ _ _ rfl | exact DW.sub _ _ _ _ rfl | exact DW.nilLst _ | refine DW.aggl ?_ | refine DW.tupl ?_ | refine DW.clol ?_ ?_)
  all_goals try ((conv => whnf); with_reducible first | refine Round.mark ?_ | refine Tells.mark ?_ | refine Retold.mark ?_)
  all_goals try first | (show (_ : Bool) = _; simp_all; done) | (show (_ : Int) < _; simp at *; omega) | (show (_ : Int) ≤ _; simp at *; omega) | (show (_ : Nat) < _; simp at *; omega) | (show (_ : Nat) ≤ _; simp at *; omega)
  all_goals try first | exact h1 | exact h2 | exact h3 | exact h4 | exact h5 | (simp only [ByteArray.size_append, baSize, List.size_toArray, List.length_cons, List.length_nil]; omega)
  conv => whnf
  refine Tells.mk (DW.str ?_)
  rw [lineP_2]
  simp only [addN, ByteArray.append_assoc]
  rfl
theorem lineP_3 (fr til rate a b : Int) : lineP ⟨3, fr, til, rate, a, b⟩ = addN (addN (addN wDeliver fr) til) rate := rfl
set_option maxRecDepth 20000 in
set_option maxHeartbeats 1000000 in
theorem line40_3 (fr til rate a b : Int) (h1 : I64 fr) (h2 : I64 til) (h3 : I64 rate) (h4 : I64 a) (h5 : I64 b) : DPure Tryd.prog 40 [.agg (mxD ⟨3, fr, til, rate, a, b⟩)] (strV (lineP ⟨3, fr, til, rate, a, b⟩)) := by
  have s1 := num_sz h1
  have s2 := num_sz h2
  have s3 := num_sz h3
  have s4 := num_sz h4
  have s5 := num_sz h5
  refine DFun.data (DFun.body Tryd.func40 rfl (by kernel_rfl) ?_)
  repeat' (first | with_reducible rfl | ((conv => whnf); first | refine And.intro ?_ ?_ | (intro h; first | with_reducible exact tf_no h | with_reducible exact ft_no h | exact Bool.noConfusion h | with_reducible exact h | (exfalso; simp at h; done) | (have ht : true = true := h; clear ht h) | skip) | ((with_reducible refine DWl.mark ?_); repeat' (first | refine DWl.cons ?_ ?_ | exact DWl.nil | exact DW.same _ rfl | exact DW.ref _ _ _ rfl | exact DW.arr _ _ _ rfl | exact DW.sub _ _ _ _ rfl | exact DW.nilLst _ | refine DW.aggl ?_ | refine DW.tupl ?_ | refine DW.clol ?_ ?_ | refine DW.int ?_ | refine DW.bool ?_ | refine DW.str ?_)) | ((with_reducible refine SCall.mark ?_); first | refine SCall.data (num58_D _ ?_) rfl rfl ?_ | refine SCall.scal (num58_D _ ?_) rfl rfl ?_) | ((with_reducible refine PCall.mark ?_); first | refine PCall.mk (num58_D _ ?_) rfl rfl ?_) | ((with_reducible refine GCall.mark ?_); first | refine GCall.data (fun _ => num58_D _ ?_) rfl rfl ?_ | refine GCall.scal (fun _ => num58_D _ ?_) rfl rfl ?_) | ((with_reducible refine MCall.mark ?_); first | refine MCall.data (fun _ => num58_D _ ?_) rfl rfl ?_ | refine MCall.plain (PCall.mk (num58_D _ ?_) rfl rfl ?_)) | ((with_reducible refine ECall.mark ?_); first | refine ECall.only ?_ (fun h => nomatch h) | refine ECall.only ?_ ?_) | ((with_reducible refine Drawn.mark ?_); first | refine Drawn.quiet (by kernel_rfl) ?_) | refine dcell_ok rfl ?_ | refine AppC.new ?_))
  all_goals first | (with_reducible refine enters_mark ?_; kernel_rfl) | (with_reducible refine boolT_mark ?_; kernel_rfl) | rfl | trivial | assumption | exact Nat.le_of_ble_eq_true rfl | (show entersB _ _ = true; kernel_rfl) | exact DW.same _ rfl | exact DW.ref _ _ _ rfl | exact DW.arr _ _ _ rfl | refine DW.int ?_ | refine dvb ?_ | refine dvi ?_ | exact OW.cells rfl rfl (DWl.same rfl) | exact Nat.zero_le _ | omega | skip
  all_goals repeat' (first | refine OW.cells rfl rfl ?_ | exact DW.nilArr _ rfl | refine DWl.cons ?_ ?_ | exact DWl.nil | exact DW.same _ rfl | exact DW.ref _ _ _ rfl | exact DW.arr _ _ _ rfl | exact DW.sub _ _ _ _ rfl | exact DW.nilLst _ | refine DW.aggl ?_ | refine DW.tupl ?_ | refine DW.clol ?_ ?_)
  all_goals try ((conv => whnf); with_reducible first | refine Round.mark ?_ | refine Tells.mark ?_ | refine Retold.mark ?_)
  all_goals try first | (show (_ : Bool) = _; simp_all; done) | (show (_ : Int) < _; simp at *; omega) | (show (_ : Int) ≤ _; simp at *; omega) | (show (_ : Nat) < _; simp at *; omega) | (show (_ : Nat) ≤ _; simp at *; omega)
  all_goals try first | exact h1 | exact h2 | exact h3 | exact h4 | exact h5 | (simp only [ByteArray.size_append, baSize, List.size_toArray, List.length_cons, List.length_nil]; omega)
  conv => whnf
  refine Tells.mk (DW.str ?_)
  rw [lineP_3]
  simp only [addN, ByteArray.append_assoc]
  rfl
theorem lineP_4 (fr til rate a b : Int) : lineP ⟨4, fr, til, rate, a, b⟩ = addN (addN (addN (addN wSever fr) til) a) b := rfl
set_option maxRecDepth 20000 in
set_option maxHeartbeats 1000000 in
theorem line40_4 (fr til rate a b : Int) (h1 : I64 fr) (h2 : I64 til) (h3 : I64 rate) (h4 : I64 a) (h5 : I64 b) : DPure Tryd.prog 40 [.agg (mxD ⟨4, fr, til, rate, a, b⟩)] (strV (lineP ⟨4, fr, til, rate, a, b⟩)) := by
  have s1 := num_sz h1
  have s2 := num_sz h2
  have s3 := num_sz h3
  have s4 := num_sz h4
  have s5 := num_sz h5
  refine DFun.data (DFun.body Tryd.func40 rfl (by kernel_rfl) ?_)
  repeat' (first | with_reducible rfl | ((conv => whnf); first | refine And.intro ?_ ?_ | (intro h; first | with_reducible exact tf_no h | with_reducible exact ft_no h | exact Bool.noConfusion h | with_reducible exact h | (exfalso; simp at h; done) | (have ht : true = true := h; clear ht h) | skip) | ((with_reducible refine DWl.mark ?_); repeat' (first | refine DWl.cons ?_ ?_ | exact DWl.nil | exact DW.same _ rfl | exact DW.ref _ _ _ rfl | exact DW.arr _ _ _ rfl | exact DW.sub _ _ _ _ rfl | exact DW.nilLst _ | refine DW.aggl ?_ | refine DW.tupl ?_ | refine DW.clol ?_ ?_ | refine DW.int ?_ | refine DW.bool ?_ | refine DW.str ?_)) | ((with_reducible refine SCall.mark ?_); first | refine SCall.data (num58_D _ ?_) rfl rfl ?_ | refine SCall.scal (num58_D _ ?_) rfl rfl ?_) | ((with_reducible refine PCall.mark ?_); first | refine PCall.mk (num58_D _ ?_) rfl rfl ?_) | ((with_reducible refine GCall.mark ?_); first | refine GCall.data (fun _ => num58_D _ ?_) rfl rfl ?_ | refine GCall.scal (fun _ => num58_D _ ?_) rfl rfl ?_) | ((with_reducible refine MCall.mark ?_); first | refine MCall.data (fun _ => num58_D _ ?_) rfl rfl ?_ | refine MCall.plain (PCall.mk (num58_D _ ?_) rfl rfl ?_)) | ((with_reducible refine ECall.mark ?_); first | refine ECall.only ?_ (fun h => nomatch h) | refine ECall.only ?_ ?_) | ((with_reducible refine Drawn.mark ?_); first | refine Drawn.quiet (by kernel_rfl) ?_) | refine dcell_ok rfl ?_ | refine AppC.new ?_))
  all_goals first | (with_reducible refine enters_mark ?_; kernel_rfl) | (with_reducible refine boolT_mark ?_; kernel_rfl) | rfl | trivial | assumption | exact Nat.le_of_ble_eq_true rfl | (show entersB _ _ = true; kernel_rfl) | exact DW.same _ rfl | exact DW.ref _ _ _ rfl | exact DW.arr _ _ _ rfl | refine DW.int ?_ | refine dvb ?_ | refine dvi ?_ | exact OW.cells rfl rfl (DWl.same rfl) | exact Nat.zero_le _ | omega | skip
  all_goals repeat' (first | refine OW.cells rfl rfl ?_ | exact DW.nilArr _ rfl | refine DWl.cons ?_ ?_ | exact DWl.nil | exact DW.same _ rfl | exact DW.ref _ _ _ rfl | exact DW.arr _ _ _ rfl | exact DW.sub _ _ _ _ rfl | exact DW.nilLst _ | refine DW.aggl ?_ | refine DW.tupl ?_ | refine DW.clol ?_ ?_)
  all_goals try ((conv => whnf); with_reducible first | refine Round.mark ?_ | refine Tells.mark ?_ | refine Retold.mark ?_)
  all_goals try first | (show (_ : Bool) = _; simp_all; done) | (show (_ : Int) < _; simp at *; omega) | (show (_ : Int) ≤ _; simp at *; omega) | (show (_ : Nat) < _; simp at *; omega) | (show (_ : Nat) ≤ _; simp at *; omega)
  all_goals try first | exact h1 | exact h2 | exact h3 | exact h4 | exact h5 | (simp only [ByteArray.size_append, baSize, List.size_toArray, List.length_cons, List.length_nil]; omega)
  conv => whnf
  refine Tells.mk (DW.str ?_)
  rw [lineP_4]
  simp only [addN, ByteArray.append_assoc]
  rfl
theorem lineP_5 (fr til rate a b : Int) : lineP ⟨5, fr, til, rate, a, b⟩ = addN (addN (addN wCrash fr) til) a := rfl
set_option maxRecDepth 20000 in
set_option maxHeartbeats 1000000 in
theorem line40_5 (fr til rate a b : Int) (h1 : I64 fr) (h2 : I64 til) (h3 : I64 rate) (h4 : I64 a) (h5 : I64 b) : DPure Tryd.prog 40 [.agg (mxD ⟨5, fr, til, rate, a, b⟩)] (strV (lineP ⟨5, fr, til, rate, a, b⟩)) := by
  have s1 := num_sz h1
  have s2 := num_sz h2
  have s3 := num_sz h3
  have s4 := num_sz h4
  have s5 := num_sz h5
  refine DFun.data (DFun.body Tryd.func40 rfl (by kernel_rfl) ?_)
  repeat' (first | with_reducible rfl | ((conv => whnf); first | refine And.intro ?_ ?_ | (intro h; first | with_reducible exact tf_no h | with_reducible exact ft_no h | exact Bool.noConfusion h | with_reducible exact h | (exfalso; simp at h; done) | (have ht : true = true := h; clear ht h) | skip) | ((with_reducible refine DWl.mark ?_); repeat' (first | refine DWl.cons ?_ ?_ | exact DWl.nil | exact DW.same _ rfl | exact DW.ref _ _ _ rfl | exact DW.arr _ _ _ rfl | exact DW.sub _ _ _ _ rfl | exact DW.nilLst _ | refine DW.aggl ?_ | refine DW.tupl ?_ | refine DW.clol ?_ ?_ | refine DW.int ?_ | refine DW.bool ?_ | refine DW.str ?_)) | ((with_reducible refine SCall.mark ?_); first | refine SCall.data (num58_D _ ?_) rfl rfl ?_ | refine SCall.scal (num58_D _ ?_) rfl rfl ?_) | ((with_reducible refine PCall.mark ?_); first | refine PCall.mk (num58_D _ ?_) rfl rfl ?_) | ((with_reducible refine GCall.mark ?_); first | refine GCall.data (fun _ => num58_D _ ?_) rfl rfl ?_ | refine GCall.scal (fun _ => num58_D _ ?_) rfl rfl ?_) | ((with_reducible refine MCall.mark ?_); first | refine MCall.data (fun _ => num58_D _ ?_) rfl rfl ?_ | refine MCall.plain (PCall.mk (num58_D _ ?_) rfl rfl ?_)) | ((with_reducible refine ECall.mark ?_); first | refine ECall.only ?_ (fun h => nomatch h) | refine ECall.only ?_ ?_) | ((with_reducible refine Drawn.mark ?_); first | refine Drawn.quiet (by kernel_rfl) ?_) | refine dcell_ok rfl ?_ | refine AppC.new ?_))
  all_goals first | (with_reducible refine enters_mark ?_; kernel_rfl) | (with_reducible refine boolT_mark ?_; kernel_rfl) | rfl | trivial | assumption | exact Nat.le_of_ble_eq_true rfl | (show entersB _ _ = true; kernel_rfl) | exact DW.same _ rfl | exact DW.ref _ _ _ rfl | exact DW.arr _ _ _ rfl | refine DW.int ?_ | refine dvb ?_ | refine dvi ?_ | exact OW.cells rfl rfl (DWl.same rfl) | exact Nat.zero_le _ | omega | skip
  all_goals repeat' (first | refine OW.cells rfl rfl ?_ | exact DW.nilArr _ rfl | refine DWl.cons ?_ ?_ | exact DWl.nil | exact DW.same _ rfl | exact DW.ref _ _ _ rfl | exact DW.arr _ _ _ rfl | exact DW.sub _ _ _ _ rfl | exact DW.nilLst _ | refine DW.aggl ?_ | refine DW.tupl ?_ | refine DW.clol ?_ ?_)
  all_goals try ((conv => whnf); with_reducible first | refine Round.mark ?_ | refine Tells.mark ?_ | refine Retold.mark ?_)
  all_goals try first | (show (_ : Bool) = _; simp_all; done) | (show (_ : Int) < _; simp at *; omega) | (show (_ : Int) ≤ _; simp at *; omega) | (show (_ : Nat) < _; simp at *; omega) | (show (_ : Nat) ≤ _; simp at *; omega)
  all_goals try first | exact h1 | exact h2 | exact h3 | exact h4 | exact h5 | (simp only [ByteArray.size_append, baSize, List.size_toArray, List.length_cons, List.length_nil]; omega)
  conv => whnf
  refine Tells.mk (DW.str ?_)
  rw [lineP_5]
  simp only [addN, ByteArray.append_assoc]
  rfl
theorem line40_E (m : Mx) (h : EntP 16 m) : DPure Tryd.prog 40 [.agg (mxD m)] (strV (lineP m)) := by
  have hk := ent_kind h
  have h := ent_i64 h
  obtain ⟨kd, fr, til, rate, a, b⟩ := m
  obtain ⟨h1, h2, h3, h4, h5⟩ := h
  simp only at hk h1 h2 h3 h4 h5
  rcases hk with rfl | rfl | rfl | rfl | rfl
  · exact line40_1 fr til rate a b h1 h2 h3 h4 h5
  · exact line40_2 fr til rate a b h1 h2 h3 h4 h5
  · exact line40_3 fr til rate a b h1 h2 h3 h4 h5
  · exact line40_4 fr til rate a b h1 h2 h3 h4 h5
  · exact line40_5 fr til rate a b h1 h2 h3 h4 h5
def tx21 (l : List Mx) (k : Nat × ByteArray) : St := ⟨0, tmOf [(0, mxs l), (3, strV k.2), (4, int1 k.1)], .of [] 0⟩
theorem tx_szA {m : Mx} {l : List Mx} {k : Nat} {s : ByteArray} (h : EntP 16 m) (hf : FitP 16 l) (hk : k ≤ l.length) (hs : s = textF (l.take k)) : s.size + (lineP m).size ≤ 9223372036854775807 := by
  have h1 := tx_sz h hf hk hs
  rw [ByteArray.size_append] at h1; omega
theorem tx_szB {m : Mx} {l : List Mx} {k : Nat} {s : ByteArray} (h : EntP 16 m) (hf : FitP 16 l) (hk : k ≤ l.length) (hs : s = textF (l.take k)) : (s ++ lineP m).size + lineB.size ≤ 9223372036854775807 := by
  have h1 := tx_sz h hf hk hs
  rw [ByteArray.size_append] at h1 ⊢; omega
theorem tx_nextD {l : List Mx} {k : Nat} {s : ByteArray} (hk : k < l.length) (hs : s = textF (l.take k)) : s ++ lineP (l.getD (((k : Nat) : Int)).toNat mx0) ++ lineB = textF (l.take (k + 1)) := by
  rw [ByteArray.append_assoc]; exact tx_next hk hs
attribute [local irreducible] lineP textF fitB EntP textT
set_option maxRecDepth 20000 in
theorem text21_D (l : List Mx) : DPure Tryd.prog 21 [mxs l] (strV (textT l)) := by
  refine DFun.data (DFun.body Tryd.func21 rfl (by kernel_rfl) ?_)
  repeat' (first | with_reducible rfl | ((conv => whnf); first | refine And.intro ?_ ?_ | (intro h; first | with_reducible exact tf_no h | with_reducible exact ft_no h | exact Bool.noConfusion h | with_reducible exact h | (have ht : true = true := h; clear ht h) | skip) | ((with_reducible refine DWl.mark ?_); repeat' (first | refine DWl.cons ?_ ?_ | exact DWl.nil | exact DW.same _ rfl | exact DW.ref _ _ _ rfl | exact DW.arr _ _ _ rfl | exact DW.sub _ _ _ _ rfl | exact DW.nilLst _ | refine DW.aggl ?_ | refine DW.tupl ?_ | refine DW.clol ?_ ?_ | refine DW.int ?_ | refine DW.bool ?_ | refine DW.str ?_)) | ((with_reducible refine SCall.mark ?_); first | refine SCall.data (fit9_D 16 l) rfl rfl ?_ | refine SCall.scal (fit9_D 16 l) rfl rfl ?_ | refine SCall.data (line40_E _ ?_) rfl rfl ?_ | refine SCall.scal (line40_E _ ?_) rfl rfl ?_) | ((with_reducible refine PCall.mark ?_); first | refine PCall.mk (fit9_D 16 l) rfl rfl ?_ | refine PCall.mk (line40_E _ ?_) rfl rfl ?_) | ((with_reducible refine GCall.mark ?_); first | refine GCall.data (fun _ => fit9_D 16 l) rfl rfl ?_ | refine GCall.scal (fun _ => fit9_D 16 l) rfl rfl ?_ | refine GCall.data (fun _ => line40_E _ ?_) rfl rfl ?_ | refine GCall.scal (fun _ => line40_E _ ?_) rfl rfl ?_) | ((with_reducible refine MCall.mark ?_); first | refine MCall.data (fun _ => fit9_D 16 l) rfl rfl ?_ | refine MCall.plain (PCall.mk (fit9_D 16 l) rfl rfl ?_) | refine MCall.data (fun _ => line40_E _ ?_) rfl rfl ?_ | refine MCall.plain (PCall.mk (line40_E _ ?_) rfl rfl ?_)) | ((with_reducible refine Tri.mark ?_); first | refine Tri.loop (tx21 l) (fun k => k.1 ≤ l.length ∧ k.2 = textF (l.take k.1)) (fun k => l.length - k.1) (0, ByteArray.empty) (by kernel_rfl) (Weak.list [] [] (by kernel_rfl) ?_ ?_) ?_ ?_) | ((with_reducible refine ECall.mark ?_); first | refine ECall.only ?_ (fun h => nomatch h) | refine ECall.only ?_ ?_) | ((with_reducible refine Drawn.mark ?_); first | refine Drawn.quiet (by kernel_rfl) ?_) | refine dloadE_map (mx0) ?_ ?_ | refine dcell_ok rfl ?_ | refine AppC.new ?_))
  all_goals first | (with_reducible refine enters_mark ?_; kernel_rfl) | (with_reducible refine boolT_mark ?_; kernel_rfl) | rfl | trivial | assumption | exact Nat.le_of_ble_eq_true rfl | (show entersB _ _ = true; kernel_rfl) | exact DW.same _ rfl | exact DW.ref _ _ _ rfl | exact DW.arr _ _ _ rfl | refine DW.int ?_ | refine dvb ?_ | refine dvi ?_ | exact OW.cells rfl rfl (DWl.same rfl) | exact Nat.zero_le _ | omega | skip
  all_goals repeat' (first | refine OW.cells rfl rfl ?_ | exact DW.nilArr _ rfl | refine DWl.cons ?_ ?_ | exact DWl.nil | exact DW.same _ rfl | exact DW.ref _ _ _ rfl | exact DW.arr _ _ _ rfl | exact DW.sub _ _ _ _ rfl | exact DW.nilLst _ | refine DW.aggl ?_ | refine DW.tupl ?_ | refine DW.clol ?_ ?_)
  all_goals try ((conv => whnf); with_reducible first | refine Round.mark ?_ | refine Tells.mark ?_ | refine Retold.mark ?_)
  all_goals try first | (show (_ : Bool) = _; simp_all; done) | (show (_ : Int) < _; simp at *; omega) | (show (_ : Int) ≤ _; simp at *; omega) | (show (_ : Nat) < _; simp at *; omega) | (show (_ : Nat) ≤ _; simp at *; omega)
  · exact Tells.mk (DW.str (text_no h).symm)
  · exact text_zero l
  · rename_i k hk
    exact ent_at (fit_yes ‹(!fitB 16 l) = false›) (lt_mapM h)
  · rename_i k hk
    exact tx_szA (ent_at (fit_yes ‹(!fitB 16 l) = false›) (lt_mapM h)) (fit_yes ‹(!fitB 16 l) = false›) hk.1 hk.2
  · rename_i k hk
    exact tx_szB (ent_at (fit_yes ‹(!fitB 16 l) = false›) (lt_mapM h)) (fit_yes ‹(!fitB 16 l) = false›) hk.1 hk.2
  · rename_i k hk
    have hlt := lt_mapM h
    have hl := (fit_yes ‹(!fitB 16 l) = false›).2.2.1
    refine Round.go (fun _ => (k.1 + 1, k.2 ++ lineP (l.getD (((k.1 : Nat) : Int)).toNat mx0) ++ lineB)) ⟨hlt, tx_nextD hlt hk.2⟩ (by show l.length - (k.1 + 1) < l.length - k.1; omega) (Weak.list [] [] (by kernel_rfl) ?_ ?_)
    · repeat' (first | exact wsucc hlt (by omega) | exact DW.same _ rfl | exact DW.ref _ _ _ rfl | exact DW.arr _ _ _ rfl | exact OW.cells rfl rfl (DWl.same rfl) | refine OW.cells rfl rfl ?_ | refine DWl.cons ?_ ?_ | exact DWl.nil | exact DW.nilArr _ rfl | exact DW.nilLst _ | refine DW.clol ?_ ?_ | refine DW.aggl ?_ | refine DW.tupl ?_ | refine DW.int ?_ | refine DW.bool ?_ | refine DW.str ?_ | refine DW.arrE rfl ?_ | ((conv => whnf); first | refine And.intro ?_ ?_ | trivial))
    · repeat' (first | exact wsucc hlt (by omega) | exact DW.same _ rfl | exact DW.ref _ _ _ rfl | exact DW.arr _ _ _ rfl | exact OW.cells rfl rfl (DWl.same rfl) | refine OW.cells rfl rfl ?_ | refine DWl.cons ?_ ?_ | exact DWl.nil | exact DW.nilArr _ rfl | exact DW.nilLst _ | refine DW.clol ?_ ?_ | refine DW.aggl ?_ | refine DW.tupl ?_ | refine DW.int ?_ | refine DW.bool ?_ | refine DW.str ?_ | refine DW.arrE rfl ?_ | ((conv => whnf); first | refine And.intro ?_ ?_ | trivial))
  · rename_i k hk
    have hge := ge_mapM h
    have e4 : k.2 = textT l := by rw [text_yes ‹(!fitB 16 l) = false›, hk.2, List.take_of_length_le hge]
    conv => whnf
    exact Tells.mk (DW.str e4)
end Go.Proofs.YtgaghkchdiepoaaDoor

/- A text's words: which one is it, how great, which are numbers. -/
namespace Go.Proofs.YtgaghkchdiepoaaDoor
open Go.RowKit Go.Dl
attribute [local irreducible] Tri SCall TSem ECall Drawn DFun QSem PSem PCall GCall MCall Round Weak dloadE OW DWl Tells IntKind.wrap Retold ESem

def strD (x : ByteArray) : List DV := [.v (.string x)]
def strs (l : List ByteArray) : DV := .lst 1 (l.map strD)
theorem words_strs (s : ByteArray) : words s = strs (wordsB s) := rfl
def idxS (w : ByteArray) : List ByteArray → Nat → Int
  | [], _ => -1
  | y :: t, i => if (w == y) = true then i else idxS w t (i + 1)
theorem drop_at {α : Type} {l : List α} {d : α} {i : Nat} (h : i < l.length) : l.drop i = l.getD i d :: l.drop (i + 1) := by
  rw [List.getD_eq_getElem?_getD, List.getElem?_eq_getElem h]; exact List.drop_eq_getElem_cons h
theorem ixs_yes {l : List ByteArray} {x : ByteArray} {i : Nat} (h : i < l.length) (e : (x == l.getD i ByteArray.empty) = true) : idxS x (l.drop i) i = i := by
  rw [drop_at (d := ByteArray.empty) h, idxS, if_pos e]
theorem ixs_no {l : List ByteArray} {x : ByteArray} {i : Nat} (h : i < l.length) (e : (x == l.getD i ByteArray.empty) = false) : idxS x (l.drop i) i = idxS x (l.drop (i + 1)) (i + 1) := by
  rw [drop_at (d := ByteArray.empty) h, idxS, if_neg (by rw [e]; decide)]
theorem ixs_end {l : List ByteArray} {x : ByteArray} {i : Nat} (h : l.length ≤ i) : idxS x (l.drop i) i = -1 := by
  rw [List.drop_of_length_le h]; rfl
def ixSt (l : List ByteArray) (x : ByteArray) (i : Nat) : St := ⟨0, tmOf [(0, strs l), (1, .v (.string x)), (7, int1 (l.map strD).length), (8, int1 i)], .of [] 0⟩
set_option maxRecDepth 20000 in
theorem index53_D (l : List ByteArray) (x : ByteArray) : DPure Tryd.prog 53 [strs l, .v (.string x)] (int1 (idxS x l 0)) := by
  refine DFun.bound 0 rfl fun ha => ?_
  have ha : l.length ≤ 9223372036854775807 := by simpa [maxLen] using ha
  refine DFun.body Tryd.func53 rfl (by kernel_rfl) ?_
  repeat' (first | with_reducible rfl | ((conv => whnf); first | refine And.intro ?_ ?_ | (intro h; first | with_reducible exact tf_no h | with_reducible exact ft_no h | exact Bool.noConfusion h | with_reducible exact h | (have ht : true = true := h; clear ht h) | skip) | ((with_reducible refine DWl.mark ?_); repeat' (first | refine DWl.cons ?_ ?_ | exact DWl.nil | exact DW.same _ rfl | exact DW.ref _ _ _ rfl | exact DW.arr _ _ _ rfl | exact DW.sub _ _ _ _ rfl | exact DW.nilLst _ | refine DW.aggl ?_ | refine DW.tupl ?_ | refine DW.clol ?_ ?_ | refine DW.int ?_ | refine DW.bool ?_ | refine DW.str ?_)) | ((with_reducible refine Tri.mark ?_); first | refine Tri.loop (ixSt l x) (fun i => i ≤ l.length ∧ idxS x l 0 = idxS x (l.drop i) i) (fun i => l.length - i) (0) (by kernel_rfl) (Weak.list [] [] ?_ ?_ ?_) ?_ ?_) | ((with_reducible refine Round.mark ?_); first | refine Round.go ((· + 1)) ?_ ?_ (Weak.list [] [] ?_ ?_ ?_)) | ((with_reducible refine ECall.mark ?_); first | refine ECall.only ?_ (fun h => nomatch h) | refine ECall.only ?_ ?_) | ((with_reducible refine Drawn.mark ?_); first | refine Drawn.quiet (by kernel_rfl) ?_) | refine dloadE_map (ByteArray.empty) ?_ ?_ | refine dcell_ok rfl ?_ | refine AppC.new ?_))
  all_goals first | (with_reducible refine enters_mark ?_; kernel_rfl) | (with_reducible refine boolT_mark ?_; kernel_rfl) | rfl | trivial | assumption | exact Nat.le_of_ble_eq_true rfl | (show entersB _ _ = true; kernel_rfl) | exact DW.same _ rfl | exact DW.ref _ _ _ rfl | exact DW.arr _ _ _ rfl | refine DW.int ?_ | refine dvb ?_ | refine dvi ?_ | exact OW.cells rfl rfl (DWl.same rfl) | skip
  all_goals repeat' (first | exact OW.cells rfl rfl (DWl.same rfl) | refine OW.cells rfl rfl ?_ | exact DW.nilArr _ rfl | refine DW.clol ?_ ?_ | refine DWl.cons ?_ ?_ | exact DWl.nil | exact DW.same _ rfl | exact DW.ref _ _ _ rfl | exact DW.arr _ _ _ rfl | refine DW.int ?_)
  all_goals try (simp_all; done)
  all_goals try (simp at *; omega)
  · rename_i i hi e0
    exact (hi.2.trans (ixs_yes (lt_of_test e0) h)).symm
  · rename_i i hi e0
    exact hi.2.trans (ixs_no (lt_of_test e0) h)
  · rename_i i hi e0
    exact wsucc (lt_of_test e0) ha
  · rename_i i hi
    exact (hi.2.trans (ixs_end (ge_of_test h))).symm
theorem words_size (sep : ByteArray) (sv : Nat) (k : Nat) : ∀ s : ByteArray, ∀ x ∈ Lib.splitB sep sv k s, x.size ≤ s.size := by
  induction k with
  | zero => intro s x hx; rw [Lib.splitB_zero, List.mem_singleton] at hx; subst hx; exact Nat.le_refl _
  | succ k ih =>
    intro s x hx
    unfold Lib.splitB at hx
    split at hx
    · rw [List.mem_singleton] at hx; subst hx; exact Nat.le_refl _
    · rcases List.mem_cons.1 hx with rfl | hx
      · rw [ByteArray.size_extract]; omega
      · have := ih _ _ hx
        rw [ByteArray.size_extract] at this; omega
def atO (w : ByteArray) : Option Int := match Lib.atoiAll w.data.toList with
  | .ok v => some v
  | _ => none
theorem at_ok {w : ByteArray} {v : Int} (hs : w.size ≤ 281474976710656) (h : atO w = some v) : DPure Tryd.prog 55 [.v (.string w)] (.tup [int1 v, .v .nilIface]) := by
  have := atoi55_D w hs
  unfold atoiP at this
  unfold atO at h
  cases e : Lib.atoiAll w.data.toList with
  | ok u => rw [e] at this h; cases h; exact this
  | _ => rw [e] at h; cases h
theorem at_no {w : ByteArray} (hs : w.size ≤ 281474976710656) (h : atO w = none) : ∃ x, DPure Tryd.prog 55 [.v (.string w)] (.tup [int1 x, .ifc 113 .dead]) := by
  have := atoi55_D w hs
  unfold atoiP at this
  unfold atO at h
  cases e : Lib.atoiAll w.data.toList with
  | ok u => rw [e] at h; cases h
  | _ => rw [e] at this; exact ⟨_, this⟩
theorem strsRow (l : List ByteArray) : ∀ r ∈ l.map strD, r.length = 1 ∧ r.all isData1 = true := by
  intro r hr
  obtain ⟨x, _, rfl⟩ := List.mem_map.1 hr
  exact ⟨rfl, rfl⟩
def wds : List ByteArray := [⟨#[]⟩, wDrop, wDouble, wDeliver, wSever, wCrash]
theorem word_size {s : ByteArray} {k : Nat} (h : k < (wordsB s).length) (hs : s.size < 4294967281) : ((wordsB s).getD k ByteArray.empty).size ≤ 281474976710656 := by
  have hm : (wordsB s).getD k ByteArray.empty ∈ wordsB s := by rw [List.getD_eq_getElem?_getD, List.getElem?_eq_getElem h]; exact List.getElem_mem h
  have := words_size _ _ _ _ _ hm
  omega
theorem words_le (s : ByteArray) : (wordsB s).length ≤ s.size + 1 := by
  rw [words_len]
  have := Lib.countB_le spaceB (by decide) s.size s (Nat.le_refl _)
  omega
def kindOf (s : ByteArray) : Int := idxS ((wordsB s).getD 0 ByteArray.empty) wds 0
def kindK (s : ByteArray) (k : Nat) : Int := if k = 0 then 0 else kindOf s
def numsK (s : ByteArray) (k : Nat) : Option (List Int) := (((wordsB s).take k).drop 1).mapM atO
def madeM (kd : Int) (l : List Int) : Mx := if kd ≤ 3 then ⟨kd, l.getD 0 0, l.getD 1 0, l.getD 2 0, 0, 0⟩ else if kd = 4 ∧ 3 < l.length then ⟨kd, l.getD 0 0, l.getD 1 0, 0, l.getD 2 0, l.getD 3 0⟩ else ⟨kd, l.getD 0 0, l.getD 1 0, 0, l.getD 2 0, 0⟩
def bad (kd : Int) : Mx := ⟨kd, 0, 0, 0, 0, 0⟩
def readK (s : ByteArray) (kd : Int) : Option (List Int) → Mx × Bool
  | none => (bad kd, false)
  | some l => if kd < 1 ∨ l.length < 3 then (bad kd, false) else (madeM kd l, bif entB 16 (madeM kd l) then lineP (madeM kd l) == s else false)
def readP (s : ByteArray) : Mx × Bool := readK s (kindOf s) (numsK s (wordsB s).length)
theorem mapM_app {f : ByteArray → Option Int} {l : List ByteArray} {x : ByteArray} : (l ++ [x]).mapM f = (match l.mapM f with | some r => (match f x with | some v => some (r ++ [v]) | none => none) | none => none) := by
  rw [List.mapM_append]
  cases l.mapM f with
  | none => rfl
  | some r => cases e : f x <;> simp [e]
theorem drop_take {l : List ByteArray} {k : Nat} (h : k < l.length) (h0 : 1 ≤ k) : (l.take (k + 1)).drop 1 = (l.take k).drop 1 ++ [l.getD k ByteArray.empty] := by
  rw [take_succ (d := ByteArray.empty) h, List.drop_append_of_le_length (by rw [List.length_take]; omega)]
theorem nums_zero (s : ByteArray) : numsK s 0 = some [] := rfl
theorem nums_one (s : ByteArray) : numsK s 1 = some [] := by
  unfold numsK
  rw [List.drop_eq_nil_of_le (by rw [List.length_take]; omega)]; rfl
theorem nums_some {s : ByteArray} {k : Nat} {v : Int} {r : List Int} (h : k < (wordsB s).length) (h0 : 1 ≤ k) (hr : numsK s k = some r) (e : atO ((wordsB s).getD k ByteArray.empty) = some v) : numsK s (k + 1) = some (r ++ [v]) := by
  unfold numsK at hr ⊢
  rw [drop_take h h0, mapM_app, hr, e]
theorem nums_bad {s : ByteArray} {k : Nat} (h : k < (wordsB s).length) (h0 : 1 ≤ k) (e : atO ((wordsB s).getD k ByteArray.empty) = none) : ∀ j, k + 1 + j ≤ (wordsB s).length → numsK s (k + 1 + j) = none := by
  intro j
  induction j with
  | zero =>
    intro _
    unfold numsK
    rw [Nat.add_zero, drop_take h h0, mapM_app, e]
    split <;> rfl
  | succ j ih =>
    intro hj
    have h1 := ih (by omega)
    unfold numsK at h1 ⊢
    rw [show k + 1 + (j + 1) = (k + 1 + j) + 1 by omega, drop_take (by omega) (by omega), mapM_app, h1]
theorem nums_fail {s : ByteArray} {k : Nat} (h : k < (wordsB s).length) (h0 : 1 ≤ k) (e : atO ((wordsB s).getD k ByteArray.empty) = none) : numsK s (wordsB s).length = none := by
  have := nums_bad h h0 e ((wordsB s).length - (k + 1)) (by omega)
  rwa [show k + 1 + ((wordsB s).length - (k + 1)) = (wordsB s).length by omega] at this
theorem at_i64 {w : ByteArray} {v : Int} (h : atO w = some v) : I64 v := by
  unfold atO at h
  cases e : Lib.atoiAll w.data.toList with
  | ok u =>
    rw [e] at h; cases h
    exact Lib.atoiAll_bounds e
  | _ => rw [e] at h; cases h
end Go.Proofs.YtgaghkchdiepoaaDoor

/- A line read, by the program. -/
namespace Go.Proofs.YtgaghkchdiepoaaDoor
open Go.RowKit Go.Dl
attribute [local irreducible] Tri SCall TSem ECall Drawn DFun QSem PSem PCall GCall MCall Round Weak dloadE OW DWl Tells IntKind.wrap Retold ESem
theorem line39_G (m : Mx) (hg : (entB 16 m == true) = true) : DPure Tryd.prog 39 [.agg (mxD m)] (strV (lineP m)) := line39_E m (ent_iff.1 (by simpa using hg))
def rd37 (s : ByteArray) (i : Nat × Int × List Int) : St := ⟨0, tmOf [(0, strV s), (2, .ref 0 0), (4, .ref 1 0), (5, .arr 2 i.2.2.length), (11, strs (wordsB s)), (12, int1 ((wordsB s).map strD).length), (13, int1 i.1)], .of [(0, ⟨52, 6, mxD mx0⟩), (1, ⟨52, 6, mxD (bad i.2.1)⟩), (2, ⟨3, 1, rowC i.2.2⟩)] 3⟩
def RdI (s : ByteArray) (i : Nat × Int × List Int) : Prop := i.1 ≤ (wordsB s).length ∧ i.2.1 = kindK s i.1 ∧ numsK s i.1 = some i.2.2
theorem rowC_push (l : List Int) (x : Int) : (rowC l).take (l.length * 1) ++ [int1 x] = rowC (l ++ [x]) := by
  rw [List.take_of_length_le (by rw [rowC_len]; omega)]; simp [rowC, intD]
theorem rowC_nil : rowC [] = [] := rfl
theorem kind_zero (s : ByteArray) : (0 : Int) = kindK s 0 := rfl
theorem kind_first (s : ByteArray) : idxS ((wordsB s).getD 0 ByteArray.empty) wds 0 = kindK s 1 := rfl
theorem kind_next {s : ByteArray} {k : Nat} (h : 1 ≤ k) : kindK s (k + 1) = kindK s k := by unfold kindK; rw [if_neg (by omega), if_neg (by omega)]
theorem kind_end {s : ByteArray} {k : Nat} (h : 1 ≤ k) : kindK s k = kindOf s := by unfold kindK; rw [if_neg (by omega)]
theorem nums_len {s : ByteArray} {k : Nat} {r : List Int} (h : numsK s k = some r) : r.length ≤ k := by
  unfold numsK at h
  have h1 := (mapM_get atO _ _ h).1.symm
  rw [List.length_drop, List.length_take] at h1
  omega
set_option maxRecDepth 20000 in
theorem rc_b1 (P : List Int) : P.length * Tryd.prog.types[3].size ≤ (rowC P).length := by
  show P.length * 1 ≤ _
  rw [rowC_len]; omega
set_option maxRecDepth 20000 in
theorem rc_b2 {P : List Int} (h : P.length ≤ 4294967281) : (P.length + 1) * Tryd.prog.types[3].bytes ≤ 140737488355328 := by
  show (P.length + 1) * 8 ≤ _
  omega
theorem rc_b3 {P : List Int} (h : P.length ≤ 4294967281) : P.length + 1 ≤ maxLen := by simp only [maxLen]; omega
theorem pushI (P : List Int) (x : Int) : P.length + 1 = (P ++ [x]).length := by simp
theorem rd_first {s : ByteArray} {i : Nat × Int × List Int} (hi : RdI s i) (h : ((i.1 : Int) == 0) = true) (hlt : i.1 < (wordsB s).length) : RdI s (i.1 + 1, idxS ((wordsB s).getD ((i.1 : Nat) : Int).toNat ByteArray.empty) wds 0, i.2.2) := by
  have h0 : i.1 = 0 := by have := eq_of_beq h; omega
  have hn := hi.2.2
  rw [h0, nums_zero] at hn
  refine ⟨hlt, ?_, ?_⟩
  · simp only [h0]; exact kind_first s
  · simp only [h0]; rw [← hn]; exact nums_one s
theorem rd_next {s : ByteArray} {i : Nat × Int × List Int} {v : Int} (hi : RdI s i) (h : ((i.1 : Int) == 0) = false) (hlt : i.1 < (wordsB s).length) (e : atO ((wordsB s).getD ((i.1 : Nat) : Int).toNat ByteArray.empty) = some v) : RdI s (i.1 + 1, i.2.1, i.2.2 ++ [v]) := by
  have h0 : 1 ≤ i.1 := by simp at h; omega
  rw [Int.toNat_natCast] at e
  exact ⟨hlt, hi.2.1.trans (kind_next h0).symm, nums_some hlt h0 hi.2.2 e⟩
theorem rd_fail {s : ByteArray} {i : Nat × Int × List Int} (hi : RdI s i) (h : ((i.1 : Int) == 0) = false) (hlt : i.1 < (wordsB s).length) (e : atO ((wordsB s).getD ((i.1 : Nat) : Int).toNat ByteArray.empty) = none) : readP s = (bad i.2.1, false) := by
  have h0 : 1 ≤ i.1 := by simp at h; omega
  rw [Int.toNat_natCast] at e
  rw [readP, nums_fail hlt h0 e, hi.2.1, kind_end h0]; rfl
theorem rd_end {s : ByteArray} {i : Nat × Int × List Int} (hi : RdI s i) (hge : (wordsB s).length ≤ i.1) : readP s = readK s i.2.1 (some i.2.2) := by
  have h1 : i.1 = (wordsB s).length := by have := hi.1; omega
  have h2 := words_len s
  have h3 := hi.2.2
  rw [h1] at h3
  rw [readP, h3, hi.2.1, kind_end (by omega)]
theorem made_1 {kd : Int} {l : List Int} (h : kd ≤ 3) : madeM kd l = ⟨kd, l.getD 0 0, l.getD 1 0, l.getD 2 0, 0, 0⟩ := by unfold madeM; rw [if_pos h]
theorem made_2 {kd : Int} {l : List Int} (h : kd = 4 ∧ 3 < l.length) : madeM kd l = ⟨kd, l.getD 0 0, l.getD 1 0, 0, l.getD 2 0, l.getD 3 0⟩ := by unfold madeM; rw [if_neg (by omega), if_pos h]
theorem made_3 {kd : Int} {l : List Int} (h : ¬ kd ≤ 3) (h2 : ¬ (kd = 4 ∧ 3 < l.length)) : madeM kd l = ⟨kd, l.getD 0 0, l.getD 1 0, 0, l.getD 2 0, 0⟩ := by unfold madeM; rw [if_neg h, if_neg h2]
theorem rd_bad {s : ByteArray} {i : Nat × Int × List Int} (hi : RdI s i) (hge : (wordsB s).length ≤ i.1) (h : (bif decide (i.2.1 < 1) then true else decide (((i.2.2.length : Nat) : Int) < 3)) = true) : readP s = (bad i.2.1, false) := by
  rw [rd_end hi hge]
  unfold readK
  simp only
  rw [if_pos (by simp at h; omega)]
theorem rd_good {s : ByteArray} {i : Nat × Int × List Int} (hi : RdI s i) (hge : (wordsB s).length ≤ i.1) (h : (bif decide (i.2.1 < 1) then true else decide (((i.2.2.length : Nat) : Int) < 3)) = false) : readP s = (madeM i.2.1 i.2.2, bif entB 16 (madeM i.2.1 i.2.2) then lineP (madeM i.2.1 i.2.2) == s else false) := by
  rw [rd_end hi hge]
  unfold readK
  simp only
  rw [if_neg (by simp at h; omega)]
attribute [local irreducible] numsK kindK kindOf entB lineP rowC wordsB
set_option maxRecDepth 20000 in
set_option maxHeartbeats 1000000 in
theorem read37_D (s : ByteArray) (hs : s.size < 4294967281) : DPure Tryd.prog 37 [strV s] (.tup [.agg (mxD (readP s).1), bl (readP s).2]) := by
  have hsp : DPure Tryd.prog 52 [.v (.string s), .v (.string spaceB)] (strs (wordsB s)) := split52_D s hs
  refine DFun.data (DFun.body Tryd.func37 rfl (by kernel_rfl) ?_)
  repeat' (first | with_reducible rfl | ((conv => whnf); first | refine And.intro ?_ ?_ | (intro h; first | with_reducible exact tf_no h | with_reducible exact ft_no h | exact Bool.noConfusion h | with_reducible exact h | (have ht : true = true := h; clear ht h) | skip) | ((with_reducible refine DWl.mark ?_); repeat' (first | refine DWl.cons ?_ ?_ | exact DWl.nil | exact DW.same _ rfl | exact DW.ref _ _ _ rfl | exact DW.arr _ _ _ rfl | exact DW.sub _ _ _ _ rfl | exact DW.nilLst _ | refine DW.aggl ?_ | refine DW.tupl ?_ | refine DW.clol ?_ ?_ | refine DW.int ?_ | refine DW.bool ?_ | refine DW.str ?_)) | ((with_reducible refine SCall.mark ?_); first | refine SCall.data (hsp) rfl rfl ?_ | refine SCall.scal (hsp) rfl rfl ?_) | ((with_reducible refine PCall.mark ?_); first | refine PCall.mk (hsp) rfl rfl ?_) | ((with_reducible refine GCall.mark ?_); first | refine GCall.data (fun _ => hsp) rfl rfl ?_ | refine GCall.scal (fun _ => hsp) rfl rfl ?_) | ((with_reducible refine MCall.mark ?_); first | refine MCall.data (fun _ => hsp) rfl rfl ?_ | refine MCall.plain (PCall.mk (hsp) rfl rfl ?_)) | ((with_reducible refine Tri.mark ?_); first | refine Tri.loop (rd37 s) (RdI s) (fun i => (wordsB s).length - i.1) (0, 0, []) (by kernel_rfl) (Weak.list [(0, some 0), (1, some 1), (2, none)] [] (by kernel_rfl) ?_ ?_) ?_ ?_) | ((with_reducible refine ECall.mark ?_); first | refine ECall.only ?_ (fun h => nomatch h) | refine ECall.only ?_ ?_) | ((with_reducible refine Drawn.mark ?_); first | refine Drawn.quiet (by kernel_rfl) ?_) | refine dcell_ok rfl ?_ | refine AppC.new ?_))
  all_goals first | (with_reducible refine enters_mark ?_; kernel_rfl) | (with_reducible refine boolT_mark ?_; kernel_rfl) | rfl | trivial | assumption | exact Nat.le_of_ble_eq_true rfl | (show entersB _ _ = true; kernel_rfl) | exact DW.same _ rfl | exact DW.ref _ _ _ rfl | exact DW.arr _ _ _ rfl | refine DW.int ?_ | refine dvb ?_ | refine dvi ?_ | exact OW.cells rfl rfl (DWl.same rfl) | exact Nat.zero_le _ | omega | skip
  all_goals repeat' (first | refine OW.cells rfl rfl ?_ | exact DW.nilArr _ rfl | refine DWl.cons ?_ ?_ | exact DWl.nil | exact DW.same _ rfl | exact DW.ref _ _ _ rfl | exact DW.arr _ _ _ rfl | exact DW.sub _ _ _ _ rfl | exact DW.nilLst _ | refine DW.aggl ?_ | refine DW.tupl ?_ | refine DW.clol ?_ ?_)
  all_goals try ((conv => whnf); with_reducible first | refine Round.mark ?_ | refine Tells.mark ?_ | refine Retold.mark ?_)
  all_goals try first | (show (_ : Bool) = _; simp_all; done) | (show (_ : Int) < _; simp at *; omega) | (show (_ : Int) ≤ _; simp at *; omega) | (show (_ : Nat) < _; simp at *; omega) | (show (_ : Nat) ≤ _; simp at *; omega)
  · conv => whnf
    exact rowC_nil
  · exact kind_zero s
  · exact nums_zero s
  · rename_i i hi
    have hlt : i.1 < (wordsB s).length := lt_of_test h
    have hw := word_size hlt hs
    have hwl := words_le s
    have hlen := nums_len hi.2.2
    have hlt' : ((i.1 : Nat) : Int).toNat < (wordsB s).length := hlt
    have ew : ((i.1 : Nat) : Int).toNat = i.1 := Int.toNat_natCast _
    have hix : ∀ w, DPure Tryd.prog 53 [strs wds, .v (.string w)] (int1 (idxS w wds 0)) := fun w => index53_D wds w
    cases hn : atO ((wordsB s).getD ((i.1 : Nat) : Int).toNat ByteArray.empty) with
    | some v =>
      have hp := at_ok (by rw [ew]; exact hw) hn
      repeat' (first | with_reducible rfl | ((conv => whnf); first | refine And.intro ?_ ?_ | (intro h; first | with_reducible exact tf_no h | with_reducible exact ft_no h | exact Bool.noConfusion h | with_reducible exact h | (have ht : true = true := h; clear ht h) | skip) | ((with_reducible refine DWl.mark ?_); repeat' (first | refine DWl.cons ?_ ?_ | exact DWl.nil | exact DW.same _ rfl | exact DW.ref _ _ _ rfl | exact DW.arr _ _ _ rfl | exact DW.sub _ _ _ _ rfl | exact DW.nilLst _ | refine DW.aggl ?_ | refine DW.tupl ?_ | refine DW.clol ?_ ?_ | exact DW.pubM (l := wds) rfl rfl rfl rfl (strsRow wds) rfl | refine DW.int ?_ | refine DW.bool ?_ | refine DW.str ?_)) | ((with_reducible refine SCall.mark ?_); first | refine SCall.data (hp) rfl rfl ?_ | refine SCall.scal (hp) rfl rfl ?_ | refine SCall.run Tryd.func54 rfl (Nat.le_of_ble_eq_true rfl) (by kernel_rfl) ?_ | (refine SCall.scalT (hix ((wordsB s).getD ((i.1 : Nat) : Int).toNat ByteArray.empty)) ?dwq rfl ?_; case dwq => (repeat' (first | refine DWl.cons ?_ ?_ | exact DWl.nil | exact DW.same _ rfl | exact DW.ref _ _ _ rfl | exact DW.arr _ _ _ rfl | exact DW.sub _ _ _ _ rfl | exact DW.nilLst _ | refine DW.aggl ?_ | refine DW.tupl ?_ | refine DW.clol ?_ ?_ | exact DW.pubM (l := wds) rfl rfl rfl rfl (strsRow wds) rfl | refine DW.int ?_ | refine DW.bool ?_ | refine DW.str ?_)))) | ((with_reducible refine PCall.mark ?_); first | refine PCall.mk (hp) rfl rfl ?_) | ((with_reducible refine GCall.mark ?_); first | refine GCall.data (fun _ => hp) rfl rfl ?_ | refine GCall.scal (fun _ => hp) rfl rfl ?_ | (refine GCall.scalT (fun _ => hix ((wordsB s).getD ((i.1 : Nat) : Int).toNat ByteArray.empty)) ?dwq rfl ?_; case dwq => (intro _; repeat' (first | refine DWl.cons ?_ ?_ | exact DWl.nil | exact DW.same _ rfl | exact DW.ref _ _ _ rfl | exact DW.arr _ _ _ rfl | exact DW.sub _ _ _ _ rfl | exact DW.nilLst _ | refine DW.aggl ?_ | refine DW.tupl ?_ | refine DW.clol ?_ ?_ | exact DW.pubM (l := wds) rfl rfl rfl rfl (strsRow wds) rfl | refine DW.int ?_ | refine DW.bool ?_ | refine DW.str ?_)))) | ((with_reducible refine MCall.mark ?_); first | refine MCall.data (fun _ => hp) rfl rfl ?_ | refine MCall.plain (PCall.mk (hp) rfl rfl ?_)) | ((with_reducible refine ex_mark ?_); first | refine dq_nilNe Tryd.underlying96 rfl ?_ | refine dq_errNe Tryd.underlying96 rfl ?_) | ((with_reducible refine ECall.mark ?_); first | refine ECall.only ?_ (fun h => nomatch h) | refine ECall.only ?_ ?_) | ((with_reducible refine Drawn.mark ?_); first | refine Drawn.quiet (by kernel_rfl) ?_) | refine dloadE_map (ByteArray.empty) ?_ ?_ | refine dcell_ok rfl ?_ | refine AppC.new ?_))
      all_goals try ((conv => whnf); with_reducible refine Round.mark ?_)
      all_goals try first | (with_reducible exact hlt') | ((with_reducible show Option.isSome (slElem _ _) = true); kernel_rfl) | ((with_reducible show slElem _ _ = some _); kernel_rfl) | ((with_reducible refine enters_mark ?_); kernel_rfl) | (with_reducible assumption) | ((with_reducible show List.all _ DV.one = true); rfl) | ((with_reducible show (_ : Nat) = _); rfl) | ((with_reducible show (_ == true) = true); simpa using h) | ((with_reducible show (_ : Nat) ≤ _); exact Nat.le_of_ble_eq_true rfl) | ((with_reducible show (_ : Int) ≤ _); first | omega | decide) | ((with_reducible show (_ : Int) < _); first | omega | decide) | ((with_reducible show (_ : Nat) < _); omega) | ((with_reducible show (_ : Nat) ≤ _); omega)
      all_goals try (show (_ : Nat) < List.length [_, _]; simp; done)
      · refine Round.go (fun _ => (i.1 + 1, idxS ((wordsB s).getD ((i.1 : Nat) : Int).toNat ByteArray.empty) wds 0, i.2.2)) (rd_first hi h hlt) (by show (wordsB s).length - (i.1 + 1) < (wordsB s).length - i.1; omega) (Weak.list [(0, some 0), (1, some 1), (2, some 2)] [] (by kernel_rfl) ?_ ?_)
        · repeat' (first | exact wsucc hlt (by omega) | exact OW.cells rfl rfl (DWl.same (rowC_all _)) | exact DW.same _ rfl | exact DW.ref _ _ _ rfl | exact DW.arr _ _ _ rfl | exact OW.cells rfl rfl (DWl.same rfl) | refine OW.cells rfl rfl ?_ | refine DWl.cons ?_ ?_ | exact DWl.nil | exact DW.nilArr _ rfl | exact DW.nilLst _ | refine DW.clol ?_ ?_ | refine DW.aggl ?_ | refine DW.tupl ?_ | refine DW.int ?_ | refine DW.bool ?_ | refine DW.str ?_ | refine DW.arrE rfl ?_ | ((conv => whnf); first | refine And.intro ?_ ?_ | trivial))
        · repeat' (first | exact wsucc hlt (by omega) | exact OW.cells rfl rfl (DWl.same (rowC_all _)) | exact DW.same _ rfl | exact DW.ref _ _ _ rfl | exact DW.arr _ _ _ rfl | exact OW.cells rfl rfl (DWl.same rfl) | refine OW.cells rfl rfl ?_ | refine DWl.cons ?_ ?_ | exact DWl.nil | exact DW.nilArr _ rfl | exact DW.nilLst _ | refine DW.clol ?_ ?_ | refine DW.aggl ?_ | refine DW.tupl ?_ | refine DW.int ?_ | refine DW.bool ?_ | refine DW.str ?_ | refine DW.arrE rfl ?_ | ((conv => whnf); first | refine And.intro ?_ ?_ | trivial))
      · exact rc_b1 _
      · exact rc_b2 (by omega)
      · exact rc_b3 (by omega)
      · have h0 := ‹((i.1 : Int) == 0) = false›
        refine Round.go (fun _ => (i.1 + 1, i.2.1, i.2.2 ++ [v])) (rd_next hi h0 hlt hn) (by show (wordsB s).length - (i.1 + 1) < (wordsB s).length - i.1; omega) (Weak.list [(0, some 0), (1, some 1), (2, some 4)] [] (by kernel_rfl) ?_ ?_)
        · repeat' (first | exact wsucc hlt (by omega) | exact OW.cells rfl rfl (DWl.eq (rowC_push i.2.2 v) (rowC_all _)) | exact pushI _ _ | exact DW.same _ rfl | exact DW.ref _ _ _ rfl | exact DW.arr _ _ _ rfl | exact OW.cells rfl rfl (DWl.same rfl) | refine OW.cells rfl rfl ?_ | refine DWl.cons ?_ ?_ | exact DWl.nil | exact DW.nilArr _ rfl | exact DW.nilLst _ | refine DW.clol ?_ ?_ | refine DW.aggl ?_ | refine DW.tupl ?_ | refine DW.int ?_ | refine DW.bool ?_ | refine DW.str ?_ | refine DW.arrE rfl ?_ | ((conv => whnf); first | refine And.intro ?_ ?_ | trivial))
        · repeat' (first | exact wsucc hlt (by omega) | exact OW.cells rfl rfl (DWl.eq (rowC_push i.2.2 v) (rowC_all _)) | exact pushI _ _ | exact DW.same _ rfl | exact DW.ref _ _ _ rfl | exact DW.arr _ _ _ rfl | exact OW.cells rfl rfl (DWl.same rfl) | refine OW.cells rfl rfl ?_ | refine DWl.cons ?_ ?_ | exact DWl.nil | exact DW.nilArr _ rfl | exact DW.nilLst _ | refine DW.clol ?_ ?_ | refine DW.aggl ?_ | refine DW.tupl ?_ | refine DW.int ?_ | refine DW.bool ?_ | refine DW.str ?_ | refine DW.arrE rfl ?_ | ((conv => whnf); first | refine And.intro ?_ ?_ | trivial))
    | none =>
      obtain ⟨x, hp⟩ := at_no (by rw [ew]; exact hw) hn
      repeat' (first | with_reducible rfl | ((conv => whnf); first | refine And.intro ?_ ?_ | (intro h; first | with_reducible exact tf_no h | with_reducible exact ft_no h | exact Bool.noConfusion h | with_reducible exact h | (have ht : true = true := h; clear ht h) | skip) | ((with_reducible refine DWl.mark ?_); repeat' (first | refine DWl.cons ?_ ?_ | exact DWl.nil | exact DW.same _ rfl | exact DW.ref _ _ _ rfl | exact DW.arr _ _ _ rfl | exact DW.sub _ _ _ _ rfl | exact DW.nilLst _ | refine DW.aggl ?_ | refine DW.tupl ?_ | refine DW.clol ?_ ?_ | exact DW.pubM (l := wds) rfl rfl rfl rfl (strsRow wds) rfl | refine DW.int ?_ | refine DW.bool ?_ | refine DW.str ?_)) | ((with_reducible refine SCall.mark ?_); first | refine SCall.data (hp) rfl rfl ?_ | refine SCall.scal (hp) rfl rfl ?_ | refine SCall.run Tryd.func54 rfl (Nat.le_of_ble_eq_true rfl) (by kernel_rfl) ?_ | (refine SCall.scalT (hix ((wordsB s).getD ((i.1 : Nat) : Int).toNat ByteArray.empty)) ?dwq rfl ?_; case dwq => (repeat' (first | refine DWl.cons ?_ ?_ | exact DWl.nil | exact DW.same _ rfl | exact DW.ref _ _ _ rfl | exact DW.arr _ _ _ rfl | exact DW.sub _ _ _ _ rfl | exact DW.nilLst _ | refine DW.aggl ?_ | refine DW.tupl ?_ | refine DW.clol ?_ ?_ | exact DW.pubM (l := wds) rfl rfl rfl rfl (strsRow wds) rfl | refine DW.int ?_ | refine DW.bool ?_ | refine DW.str ?_)))) | ((with_reducible refine PCall.mark ?_); first | refine PCall.mk (hp) rfl rfl ?_) | ((with_reducible refine GCall.mark ?_); first | refine GCall.data (fun _ => hp) rfl rfl ?_ | refine GCall.scal (fun _ => hp) rfl rfl ?_ | (refine GCall.scalT (fun _ => hix ((wordsB s).getD ((i.1 : Nat) : Int).toNat ByteArray.empty)) ?dwq rfl ?_; case dwq => (intro _; repeat' (first | refine DWl.cons ?_ ?_ | exact DWl.nil | exact DW.same _ rfl | exact DW.ref _ _ _ rfl | exact DW.arr _ _ _ rfl | exact DW.sub _ _ _ _ rfl | exact DW.nilLst _ | refine DW.aggl ?_ | refine DW.tupl ?_ | refine DW.clol ?_ ?_ | exact DW.pubM (l := wds) rfl rfl rfl rfl (strsRow wds) rfl | refine DW.int ?_ | refine DW.bool ?_ | refine DW.str ?_)))) | ((with_reducible refine MCall.mark ?_); first | refine MCall.data (fun _ => hp) rfl rfl ?_ | refine MCall.plain (PCall.mk (hp) rfl rfl ?_)) | ((with_reducible refine ex_mark ?_); first | refine dq_nilNe Tryd.underlying96 rfl ?_ | refine dq_errNe Tryd.underlying96 rfl ?_) | ((with_reducible refine ECall.mark ?_); first | refine ECall.only ?_ (fun h => nomatch h) | refine ECall.only ?_ ?_) | ((with_reducible refine Drawn.mark ?_); first | refine Drawn.quiet (by kernel_rfl) ?_) | refine dloadE_map (ByteArray.empty) ?_ ?_ | refine dcell_ok rfl ?_ | refine AppC.new ?_))
      all_goals try ((conv => whnf); with_reducible refine Round.mark ?_)
      all_goals try first | (with_reducible exact hlt') | ((with_reducible show Option.isSome (slElem _ _) = true); kernel_rfl) | ((with_reducible show slElem _ _ = some _); kernel_rfl) | ((with_reducible refine enters_mark ?_); kernel_rfl) | (with_reducible assumption) | ((with_reducible show List.all _ DV.one = true); rfl) | ((with_reducible show (_ : Nat) = _); rfl) | ((with_reducible show (_ == true) = true); simpa using h) | ((with_reducible show (_ : Nat) ≤ _); exact Nat.le_of_ble_eq_true rfl) | ((with_reducible show (_ : Int) ≤ _); first | omega | decide) | ((with_reducible show (_ : Int) < _); first | omega | decide) | ((with_reducible show (_ : Nat) < _); omega) | ((with_reducible show (_ : Nat) ≤ _); omega)
      all_goals try (show (_ : Nat) < List.length [_, _]; simp; done)
      · refine Round.go (fun _ => (i.1 + 1, idxS ((wordsB s).getD ((i.1 : Nat) : Int).toNat ByteArray.empty) wds 0, i.2.2)) (rd_first hi h hlt) (by show (wordsB s).length - (i.1 + 1) < (wordsB s).length - i.1; omega) (Weak.list [(0, some 0), (1, some 1), (2, some 2)] [] (by kernel_rfl) ?_ ?_)
        · repeat' (first | exact wsucc hlt (by omega) | exact OW.cells rfl rfl (DWl.same (rowC_all _)) | exact DW.same _ rfl | exact DW.ref _ _ _ rfl | exact DW.arr _ _ _ rfl | exact OW.cells rfl rfl (DWl.same rfl) | refine OW.cells rfl rfl ?_ | refine DWl.cons ?_ ?_ | exact DWl.nil | exact DW.nilArr _ rfl | exact DW.nilLst _ | refine DW.clol ?_ ?_ | refine DW.aggl ?_ | refine DW.tupl ?_ | refine DW.int ?_ | refine DW.bool ?_ | refine DW.str ?_ | refine DW.arrE rfl ?_ | ((conv => whnf); first | refine And.intro ?_ ?_ | trivial))
        · repeat' (first | exact wsucc hlt (by omega) | exact OW.cells rfl rfl (DWl.same (rowC_all _)) | exact DW.same _ rfl | exact DW.ref _ _ _ rfl | exact DW.arr _ _ _ rfl | exact OW.cells rfl rfl (DWl.same rfl) | refine OW.cells rfl rfl ?_ | refine DWl.cons ?_ ?_ | exact DWl.nil | exact DW.nilArr _ rfl | exact DW.nilLst _ | refine DW.clol ?_ ?_ | refine DW.aggl ?_ | refine DW.tupl ?_ | refine DW.int ?_ | refine DW.bool ?_ | refine DW.str ?_ | refine DW.arrE rfl ?_ | ((conv => whnf); first | refine And.intro ?_ ?_ | trivial))
      · have h0 := ‹((i.1 : Int) == 0) = false›
        conv => whnf
        exact Tells.of (r1 := .tup [.agg (mxD (bad i.2.1)), bl false]) (by rw [rd_fail hi h0 hlt hn]) (Tells.mk (DW.tupl (DWl.cons (DW.aggl (DWl.cons (DW.int rfl) (DWl.cons (DW.int rfl) (DWl.cons (DW.int rfl) (DWl.cons (DW.int rfl) (DWl.cons (DW.int rfl) (DWl.cons (DW.int rfl) DWl.nil))))))) (DWl.cons (DW.bool rfl) DWl.nil))))
  · rename_i i hi e0
    have hge := ge_of_test e0
    conv => whnf
    exact Tells.of (r1 := .tup [.agg (mxD (bad i.2.1)), bl false]) (by rw [rd_bad hi hge h]) (Tells.mk (DW.tupl (DWl.cons (DW.aggl (DWl.cons (DW.int rfl) (DWl.cons (DW.int rfl) (DWl.cons (DW.int rfl) (DWl.cons (DW.int rfl) (DWl.cons (DW.int rfl) (DWl.cons (DW.int rfl) DWl.nil))))))) (DWl.cons (DW.bool rfl) DWl.nil))))
  · rename_i i hi e0
    have hge := ge_of_test e0
    have hrd := rd_good hi hge h
    have h' : (bif decide (i.2.1 < 1) then true else decide (((i.2.2.length : Nat) : Int) < 3)) = false := h
    have h3 : 3 ≤ i.2.2.length ∧ 1 ≤ i.2.1 := by simp at h'; omega
    repeat' (first | with_reducible rfl | ((conv => whnf); first | refine And.intro ?_ ?_ | (intro h; first | with_reducible exact tf_no h | with_reducible exact ft_no h | exact Bool.noConfusion h | with_reducible exact h | (have ht : true = true := h; clear ht h) | skip) | ((with_reducible refine DWl.mark ?_); repeat' (first | refine DWl.cons ?_ ?_ | exact DWl.nil | exact DW.same _ rfl | exact DW.ref _ _ _ rfl | exact DW.arr _ _ _ rfl | exact DW.sub _ _ _ _ rfl | exact DW.nilLst _ | refine DW.aggl ?_ | refine DW.tupl ?_ | refine DW.clol ?_ ?_ | refine DW.int ?_ | refine DW.bool ?_ | refine DW.str ?_)) | ((with_reducible refine SCall.mark ?_); first | refine SCall.run Tryd.func49 rfl (Nat.le_of_ble_eq_true rfl) (by kernel_rfl) ?_ | refine SCall.data (fit26_D 16 ⟨i.2.1, (i.2.2.getD 0 0), (i.2.2.getD 1 0), (i.2.2.getD 2 0), 0, 0⟩) rfl rfl ?_ | refine SCall.scal (fit26_D 16 ⟨i.2.1, (i.2.2.getD 0 0), (i.2.2.getD 1 0), (i.2.2.getD 2 0), 0, 0⟩) rfl rfl ?_ | refine SCall.data (fit26_D 16 ⟨i.2.1, (i.2.2.getD 0 0), (i.2.2.getD 1 0), 0, (i.2.2.getD 2 0), (i.2.2.getD 3 0)⟩) rfl rfl ?_ | refine SCall.scal (fit26_D 16 ⟨i.2.1, (i.2.2.getD 0 0), (i.2.2.getD 1 0), 0, (i.2.2.getD 2 0), (i.2.2.getD 3 0)⟩) rfl rfl ?_ | refine SCall.data (fit26_D 16 ⟨i.2.1, (i.2.2.getD 0 0), (i.2.2.getD 1 0), 0, (i.2.2.getD 2 0), 0⟩) rfl rfl ?_ | refine SCall.scal (fit26_D 16 ⟨i.2.1, (i.2.2.getD 0 0), (i.2.2.getD 1 0), 0, (i.2.2.getD 2 0), 0⟩) rfl rfl ?_) | ((with_reducible refine PCall.mark ?_); first | refine PCall.mk (fit26_D 16 ⟨i.2.1, (i.2.2.getD 0 0), (i.2.2.getD 1 0), (i.2.2.getD 2 0), 0, 0⟩) rfl rfl ?_ | refine PCall.mk (fit26_D 16 ⟨i.2.1, (i.2.2.getD 0 0), (i.2.2.getD 1 0), 0, (i.2.2.getD 2 0), (i.2.2.getD 3 0)⟩) rfl rfl ?_ | refine PCall.mk (fit26_D 16 ⟨i.2.1, (i.2.2.getD 0 0), (i.2.2.getD 1 0), 0, (i.2.2.getD 2 0), 0⟩) rfl rfl ?_) | ((with_reducible refine GCall.mark ?_); first | refine GCall.data (fun _ => fit26_D 16 ⟨i.2.1, (i.2.2.getD 0 0), (i.2.2.getD 1 0), (i.2.2.getD 2 0), 0, 0⟩) rfl rfl ?_ | refine GCall.scal (fun _ => fit26_D 16 ⟨i.2.1, (i.2.2.getD 0 0), (i.2.2.getD 1 0), (i.2.2.getD 2 0), 0, 0⟩) rfl rfl ?_ | refine GCall.data (fun _ => fit26_D 16 ⟨i.2.1, (i.2.2.getD 0 0), (i.2.2.getD 1 0), 0, (i.2.2.getD 2 0), (i.2.2.getD 3 0)⟩) rfl rfl ?_ | refine GCall.scal (fun _ => fit26_D 16 ⟨i.2.1, (i.2.2.getD 0 0), (i.2.2.getD 1 0), 0, (i.2.2.getD 2 0), (i.2.2.getD 3 0)⟩) rfl rfl ?_ | refine GCall.data (fun _ => fit26_D 16 ⟨i.2.1, (i.2.2.getD 0 0), (i.2.2.getD 1 0), 0, (i.2.2.getD 2 0), 0⟩) rfl rfl ?_ | refine GCall.scal (fun _ => fit26_D 16 ⟨i.2.1, (i.2.2.getD 0 0), (i.2.2.getD 1 0), 0, (i.2.2.getD 2 0), 0⟩) rfl rfl ?_) | ((with_reducible refine MCall.mark ?_); first | refine MCall.data (fun _ => fit26_D 16 ⟨i.2.1, (i.2.2.getD 0 0), (i.2.2.getD 1 0), (i.2.2.getD 2 0), 0, 0⟩) rfl rfl ?_ | refine MCall.plain (PCall.mk (fit26_D 16 ⟨i.2.1, (i.2.2.getD 0 0), (i.2.2.getD 1 0), (i.2.2.getD 2 0), 0, 0⟩) rfl rfl ?_) | refine MCall.data (fun hg => line39_G ⟨i.2.1, (i.2.2.getD 0 0), (i.2.2.getD 1 0), (i.2.2.getD 2 0), 0, 0⟩ hg) rfl rfl ?_ | refine MCall.data (fun _ => fit26_D 16 ⟨i.2.1, (i.2.2.getD 0 0), (i.2.2.getD 1 0), 0, (i.2.2.getD 2 0), (i.2.2.getD 3 0)⟩) rfl rfl ?_ | refine MCall.plain (PCall.mk (fit26_D 16 ⟨i.2.1, (i.2.2.getD 0 0), (i.2.2.getD 1 0), 0, (i.2.2.getD 2 0), (i.2.2.getD 3 0)⟩) rfl rfl ?_) | refine MCall.data (fun hg => line39_G ⟨i.2.1, (i.2.2.getD 0 0), (i.2.2.getD 1 0), 0, (i.2.2.getD 2 0), (i.2.2.getD 3 0)⟩ hg) rfl rfl ?_ | refine MCall.data (fun _ => fit26_D 16 ⟨i.2.1, (i.2.2.getD 0 0), (i.2.2.getD 1 0), 0, (i.2.2.getD 2 0), 0⟩) rfl rfl ?_ | refine MCall.plain (PCall.mk (fit26_D 16 ⟨i.2.1, (i.2.2.getD 0 0), (i.2.2.getD 1 0), 0, (i.2.2.getD 2 0), 0⟩) rfl rfl ?_) | refine MCall.data (fun hg => line39_G ⟨i.2.1, (i.2.2.getD 0 0), (i.2.2.getD 1 0), 0, (i.2.2.getD 2 0), 0⟩ hg) rfl rfl ?_) | ((with_reducible refine Tri.mark ?_); first | (refine Tri.treeX [1] (MX.mv 0 0 (MX.mv 0 1 (MX.mv 0 2 (MX.mv 0 3 (MX.mv 0 4 (MX.mv 0 5 (MX.mv 0 6 (MX.mv 0 7 (MX.mv 1 8 (MX.mv 1 9 (MX.mv 1 10 (MX.mv 1 11 MX.done)))))))))))) ?_ (by kernel_rfl) ?_; rfl) | (refine Tri.treeX [0] (MX.mv 0 0 (MX.mv 0 1 (MX.mv 1 2 (MX.mv 0 3 (MX.mv 0 4 (MX.mv 0 6 (MX.mv 1 5 (MX.mv 0 7 (MX.mv 0 8 (MX.mv 1 9 (MX.mv 1 10 MX.done))))))))))) ?_ (by kernel_rfl) ?_; rfl)) | ((with_reducible refine ECall.mark ?_); first | refine ECall.only ?_ (fun h => nomatch h) | refine ECall.only ?_ ?_) | ((with_reducible refine Drawn.mark ?_); first | (refine Drawn.tree ?_; refine Tri.treeX [1] (MX.mv 0 0 (MX.mv 0 1 (MX.mv 0 2 (MX.mv 0 3 (MX.mv 0 4 (MX.mv 0 5 (MX.mv 0 6 (MX.mv 0 7 (MX.mv 1 8 (MX.mv 1 9 (MX.mv 1 10 (MX.mv 1 11 MX.done)))))))))))) ?_ (by kernel_rfl) ?_; rfl) | (refine Drawn.tree ?_; refine Tri.treeX [0] (MX.mv 0 0 (MX.mv 0 1 (MX.mv 1 2 (MX.mv 0 3 (MX.mv 0 4 (MX.mv 0 6 (MX.mv 1 5 (MX.mv 0 7 (MX.mv 0 8 (MX.mv 1 9 (MX.mv 1 10 MX.done))))))))))) ?_ (by kernel_rfl) ?_; rfl) | refine Drawn.quiet (by kernel_rfl) ?_) | refine dcell_row ?_ ?_ | refine dcell_ok rfl ?_ | refine AppC.new ?_))
    all_goals try first | ((with_reducible show Option.all _ _ = true); rfl) | ((with_reducible show Option.isSome (slElem _ _) = true); kernel_rfl) | ((with_reducible show slElem _ _ = some _); kernel_rfl) | ((with_reducible refine enters_mark ?_); kernel_rfl) | (with_reducible assumption) | ((with_reducible show List.all _ DV.one = true); rfl) | ((with_reducible show (_ : Nat) = _); rfl) | ((with_reducible show (_ == true) = true); simpa using h) | ((with_reducible show (_ : Nat) ≤ _); exact Nat.le_of_ble_eq_true rfl) | ((with_reducible show (_ : Int) ≤ _); first | omega | decide) | ((with_reducible show (_ : Int) < _); first | omega | decide) | ((with_reducible show (_ : Nat) < _); omega) | ((with_reducible show (_ : Nat) ≤ _); omega)
    · have hk : (bif decide (1 ≤ i.2.1) then decide (i.2.1 ≤ 3) else false) = true := h
      rw [made_1 (by simp at hk; omega)] at hrd
      conv => whnf
      exact Tells.of (r1 := .tup [.agg (mxD ⟨i.2.1, (i.2.2.getD 0 0), (i.2.2.getD 1 0), (i.2.2.getD 2 0), 0, 0⟩), bl (bif entB 16 ⟨i.2.1, (i.2.2.getD 0 0), (i.2.2.getD 1 0), (i.2.2.getD 2 0), 0, 0⟩ then lineP ⟨i.2.1, (i.2.2.getD 0 0), (i.2.2.getD 1 0), (i.2.2.getD 2 0), 0, 0⟩ == s else false)]) (by rw [hrd]) (Tells.mk (DW.tupl (DWl.cons (DW.aggl (DWl.cons (DW.int rfl) (DWl.cons (DW.int rfl) (DWl.cons (DW.int rfl) (DWl.cons (DW.int rfl) (DWl.cons (DW.int rfl) (DWl.cons (DW.int rfl) DWl.nil))))))) (DWl.cons (DW.bool rfl) DWl.nil))))
    · have hk : (bif i.2.1 == 4 then decide (3 < ((i.2.2.length : Nat) : Int)) else false) = true := h
      simp at hk; omega
    · have hk : (bif i.2.1 == 4 then decide (3 < ((i.2.2.length : Nat) : Int)) else false) = true := h
      simp at hk
      show 3 < _
      omega
    · have hk : (bif i.2.1 == 4 then decide (3 < ((i.2.2.length : Nat) : Int)) else false) = true := h
      rw [made_2 (by simp at hk; omega)] at hrd
      conv => whnf
      exact Tells.of (r1 := .tup [.agg (mxD ⟨i.2.1, (i.2.2.getD 0 0), (i.2.2.getD 1 0), 0, (i.2.2.getD 2 0), (i.2.2.getD 3 0)⟩), bl (bif entB 16 ⟨i.2.1, (i.2.2.getD 0 0), (i.2.2.getD 1 0), 0, (i.2.2.getD 2 0), (i.2.2.getD 3 0)⟩ then lineP ⟨i.2.1, (i.2.2.getD 0 0), (i.2.2.getD 1 0), 0, (i.2.2.getD 2 0), (i.2.2.getD 3 0)⟩ == s else false)]) (by rw [hrd]) (Tells.mk (DW.tupl (DWl.cons (DW.aggl (DWl.cons (DW.int rfl) (DWl.cons (DW.int rfl) (DWl.cons (DW.int rfl) (DWl.cons (DW.int rfl) (DWl.cons (DW.int rfl) (DWl.cons (DW.int rfl) DWl.nil))))))) (DWl.cons (DW.bool rfl) DWl.nil))))
    · have hk : (bif i.2.1 == 4 then decide (3 < ((i.2.2.length : Nat) : Int)) else false) = false := h
      rename_i hk1
      have hk1 : (bif decide (1 ≤ i.2.1) then decide (i.2.1 ≤ 3) else false) = false := hk1
      rw [made_3 (by simp at hk1; omega) (by simp at hk; omega)] at hrd
      conv => whnf
      exact Tells.of (r1 := .tup [.agg (mxD ⟨i.2.1, (i.2.2.getD 0 0), (i.2.2.getD 1 0), 0, (i.2.2.getD 2 0), 0⟩), bl (bif entB 16 ⟨i.2.1, (i.2.2.getD 0 0), (i.2.2.getD 1 0), 0, (i.2.2.getD 2 0), 0⟩ then lineP ⟨i.2.1, (i.2.2.getD 0 0), (i.2.2.getD 1 0), 0, (i.2.2.getD 2 0), 0⟩ == s else false)]) (by rw [hrd]) (Tells.mk (DW.tupl (DWl.cons (DW.aggl (DWl.cons (DW.int rfl) (DWl.cons (DW.int rfl) (DWl.cons (DW.int rfl) (DWl.cons (DW.int rfl) (DWl.cons (DW.int rfl) (DWl.cons (DW.int rfl) DWl.nil))))))) (DWl.cons (DW.bool rfl) DWl.nil))))
end Go.Proofs.YtgaghkchdiepoaaDoor

/- A plan read, by the program. -/
namespace Go.Proofs.YtgaghkchdiepoaaDoor
open Go.RowKit Go.Dl
attribute [local irreducible] Tri SCall TSem ECall Drawn DFun QSem PSem PCall GCall MCall Round Weak dloadE OW DWl Tells IntKind.wrap Retold ESem
def lineOf (t : ByteArray) : ByteArray := bs (Lib.cut t.data.toList [10]).1
def restOf (t : ByteArray) : ByteArray := bs (Lib.cut t.data.toList [10]).2.1
def endOf (t : ByteArray) : Bool := (Lib.cut t.data.toList [10]).2.2
def parseN : Nat → ByteArray → List Mx → List Mx × Int × Int
  | 0, _, out => (out, 0, 0)
  | n + 1, t, out => if t = ByteArray.empty then (out, 0, 0) else if 32 ≤ out.length then ([], ((out.length + 1 : Nat) : Int), 30)
    else if (readP (lineOf t)).2 = true ∧ endOf t = true then parseN n (restOf t) (out ++ [(readP (lineOf t)).1]) else ([], ((out.length + 1 : Nat) : Int), 20)
def parseT (t : ByteArray) : List Mx × Int × Int := parseN (t.size + 1) t []
theorem bs_size (l : List UInt8) : (bs l).size = l.length := by show l.toArray.size = _; simp
theorem ba_len (t : ByteArray) : t.data.toList.length = t.size := Array.length_toList
theorem line_size (t : ByteArray) : (lineOf t).size ≤ t.size := by
  unfold lineOf
  rw [bs_size, ← ba_len t]
  unfold Lib.cut
  split
  · simp only [List.length_take]; omega
  · exact Nat.le_refl _
theorem ba_nil {t : ByteArray} (h : t.size = 0) : t = ByteArray.empty := by
  obtain ⟨a⟩ := t
  have : a = #[] := Array.eq_empty_of_size_eq_zero h
  subst this; rfl
theorem rest_size {t : ByteArray} (h : t ≠ ByteArray.empty) : (restOf t).size < t.size := by
  have h0 : 0 < t.size := Nat.pos_of_ne_zero fun e => h (ba_nil e)
  unfold restOf
  rw [bs_size]
  unfold Lib.cut
  split
  · rename_i hi
    have := Lib.index_room t.data.toList [10] hi
    simp only [List.length_drop, ba_len] at this ⊢
    simp only [List.length_cons, List.length_nil] at this ⊢
    omega
  · exact h0
theorem par_end {n : Nat} {t : ByteArray} {out : List Mx} (hn : t.size < n) (h : t = ByteArray.empty) : parseN n t out = (out, 0, 0) := by
  obtain ⟨m, rfl⟩ : ∃ m, n = m + 1 := ⟨n - 1, by omega⟩
  rw [parseN, if_pos h]
theorem par_full {n : Nat} {t : ByteArray} {out : List Mx} (hn : t.size < n) (h : t ≠ ByteArray.empty) (h2 : 32 ≤ out.length) : parseN n t out = ([], ((out.length + 1 : Nat) : Int), 30) := by
  obtain ⟨m, rfl⟩ : ∃ m, n = m + 1 := ⟨n - 1, by omega⟩
  rw [parseN, if_neg h, if_pos h2]
theorem par_bad {n : Nat} {t : ByteArray} {out : List Mx} (hn : t.size < n) (h : t ≠ ByteArray.empty) (h2 : ¬ 32 ≤ out.length) (h3 : ¬ ((readP (lineOf t)).2 = true ∧ endOf t = true)) : parseN n t out = ([], ((out.length + 1 : Nat) : Int), 20) := by
  obtain ⟨m, rfl⟩ : ∃ m, n = m + 1 := ⟨n - 1, by omega⟩
  rw [parseN, if_neg h, if_neg h2, if_neg h3]
theorem par_next {n : Nat} {t : ByteArray} {out : List Mx} (hn : t.size < n) (h : t ≠ ByteArray.empty) (h2 : ¬ 32 ≤ out.length) (h3 : (readP (lineOf t)).2 = true ∧ endOf t = true) : parseN n t out = parseN (n - 1) (restOf t) (out ++ [(readP (lineOf t)).1]) := by
  obtain ⟨m, rfl⟩ : ∃ m, n = m + 1 := ⟨n - 1, by omega⟩
  rw [parseN, if_neg h, if_neg h2, if_pos h3]; rfl
def rowM (l : List Mx) : List DV := (l.map mxD).flatten
theorem rowM_cons (x : Mx) (l : List Mx) : rowM (x :: l) = mxD x ++ rowM l := rfl
theorem rowM_append (l m : List Mx) : rowM (l ++ m) = rowM l ++ rowM m := by simp [rowM]
theorem rowM_len (l : List Mx) : (rowM l).length = l.length * 6 := by
  induction l with
  | nil => rfl
  | cons a l ih => rw [rowM_cons, List.length_append, ih]; simp [mxD]; omega
theorem rowM_all (l : List Mx) : (rowM l).all noId1 = true := by
  induction l with
  | nil => rfl
  | cons a l ih => rw [rowM_cons, List.all_append, ih]; rfl
theorem rowM_push (l : List Mx) (p : Mx) : (rowM l).take (l.length * 6) ++ mxD p = rowM (l ++ [p]) := by
  rw [List.take_of_length_le (by rw [rowM_len]; exact Nat.le_refl _), rowM_append]; simp [rowM]
theorem rowM_eq (l : List Mx) : rowM l = (l.map mxD).flatten := rfl
theorem rowM_nil : rowM [] = [] := rfl
theorem pushM (P : List Mx) (x : Mx) : P.length + 1 = (P ++ [x]).length := by simp
set_option maxRecDepth 20000 in
theorem rm_b1 (P : List Mx) : P.length * Tryd.prog.types[50].size ≤ (rowM P).length := by
  show P.length * 6 ≤ _
  rw [rowM_len]; exact Nat.le_refl _
set_option maxRecDepth 20000 in
theorem rm_b2 {P : List Mx} (h : P.length ≤ 32) : (P.length + 1) * Tryd.prog.types[50].bytes ≤ 140737488355328 := by
  show (P.length + 1) * 48 ≤ _
  omega
theorem rm_b3 {P : List Mx} (h : P.length ≤ 32) : P.length + 1 ≤ maxLen := by simp only [maxLen]; omega
def ps18 (i : Nat × ByteArray × List Mx) : St := ⟨0, tmOf [(0, strV i.2.1), (3, .ref 0 0), (4, .arr 1 i.2.2.length), (5, int1 (i.2.2.length + 1 : Nat))], .of [(0, ⟨39, 2, [int1 0, int1 0]⟩), (1, ⟨50, 6, rowM i.2.2⟩)] 2⟩
def PsI (t : ByteArray) (i : Nat × ByteArray × List Mx) : Prop := i.2.1.size < i.1 ∧ i.2.1.size ≤ t.size ∧ i.2.2.length ≤ 32 ∧ parseN i.1 i.2.1 i.2.2 = parseT t
theorem ba_ne {a : ByteArray} (h : (a != ⟨#[]⟩) = true) : a ≠ ByteArray.empty := fun e => by
  have : (a == ByteArray.mk #[]) = true := ba_eq.2 e
  simp [bne, this] at h
theorem ba_is {a : ByteArray} (h : (a != ⟨#[]⟩) = false) : a = ByteArray.empty := by
  have h2 : (a == ByteArray.mk #[]) = true := by simpa [bne] using h
  exact ba_eq.1 h2
theorem wpush (P : List Mx) (x : Mx) (h : P.length ≤ 32) : IntKind.i64.wrap (((P.length + 1 : Nat) : Int) + 1) = (((P ++ [x]).length + 1 : Nat) : Int) := by
  rw [wsucc (n := 100) (by omega) (by omega), List.length_append]; rfl
theorem ps_zero (t : ByteArray) : PsI t (t.size + 1, t, []) := ⟨Nat.lt_succ_self _, Nat.le_refl _, Nat.zero_le _, rfl⟩
theorem ps_end {t : ByteArray} {i : Nat × ByteArray × List Mx} (hi : PsI t i) (h : (i.2.1 != ⟨#[]⟩) = false) : parseT t = (i.2.2, 0, 0) := by
  rw [← hi.2.2.2, par_end hi.1 (ba_is h)]
theorem ps_full {t : ByteArray} {i : Nat × ByteArray × List Mx} (hi : PsI t i) (h : (i.2.1 != ⟨#[]⟩) = true) (h2 : decide ((32 : Int) ≤ ((i.2.2.length : Nat) : Int)) = true) : parseT t = ([], ((i.2.2.length + 1 : Nat) : Int), 30) := by
  rw [← hi.2.2.2, par_full hi.1 (ba_ne h) (by have := of_decide_eq_true h2; omega)]
theorem ps_bad {t : ByteArray} {i : Nat × ByteArray × List Mx} (hi : PsI t i) (h : (i.2.1 != ⟨#[]⟩) = true) (h2 : decide ((32 : Int) ≤ ((i.2.2.length : Nat) : Int)) = false) (h3 : (bif !(readP (lineOf i.2.1)).2 then true else !endOf i.2.1) = true) : parseT t = ([], ((i.2.2.length + 1 : Nat) : Int), 20) := by
  rw [← hi.2.2.2, par_bad hi.1 (ba_ne h) (by have := of_decide_eq_false h2; omega) (fun e => by rw [e.1, e.2] at h3; cases h3)]
theorem ps_next {t : ByteArray} {i : Nat × ByteArray × List Mx} (hi : PsI t i) (h : (i.2.1 != ⟨#[]⟩) = true) (h2 : decide ((32 : Int) ≤ ((i.2.2.length : Nat) : Int)) = false) (h3 : (bif !(readP (lineOf i.2.1)).2 then true else !endOf i.2.1) = false) : PsI t (i.1 - 1, restOf i.2.1, i.2.2 ++ [(readP (lineOf i.2.1)).1]) ∧ i.1 - 1 < i.1 := by
  have hne := ba_ne h
  have hr := rest_size hne
  have h4 : ¬ 32 ≤ i.2.2.length := by have := of_decide_eq_false h2; omega
  have h5 : (readP (lineOf i.2.1)).2 = true ∧ endOf i.2.1 = true := by
    cases e1 : (readP (lineOf i.2.1)).2 <;> cases e2 : endOf i.2.1 <;> rw [e1, e2] at h3 <;> simp at h3 ⊢
  obtain ⟨p1, p2, p3, p4⟩ := hi
  refine ⟨⟨?_, ?_, ?_, ?_⟩, ?_⟩
  · show (restOf i.2.1).size < i.1 - 1; omega
  · show (restOf i.2.1).size ≤ t.size; omega
  · show (i.2.2 ++ [_]).length ≤ 32
    rw [List.length_append]; simp only [List.length_cons, List.length_nil]; omega
  · show parseN (i.1 - 1) (restOf i.2.1) (i.2.2 ++ [_]) = _
    rw [← p4, par_next p1 hne h4 h5]
  · show i.1 - 1 < i.1; omega
theorem ps_szs {t : ByteArray} {i : Nat × ByteArray × List Mx} (hi : PsI t i) (ht : t.size < 4294967281) : i.2.1.size < 4294967281 ∧ (lineOf i.2.1).size < 4294967281 ∧ i.2.2.length ≤ 32 := by
  have := line_size i.2.1
  have := hi.2.1
  have := hi.2.2.1
  omega
theorem cut36_E (t : ByteArray) (h : t.size < 4294967281) : DPure Tryd.prog 36 [strV t, .v (.string lineB)] (.tup [strV (lineOf t), strV (restOf t), bl (endOf t)]) := cut36_D t h
theorem grant18 {b : Bool} (h : (true && !!b) = true) : ((!b) == false) = true := by cases b <;> simp_all
attribute [local irreducible] readP lineOf restOf endOf parseN rowM PsI
set_option maxRecDepth 20000 in
set_option maxHeartbeats 1000000 in
theorem parse18_D (t : ByteArray) (ht : t.size < 4294967281) : DPure Tryd.prog 18 [strV t] (.tup [mxs (parseT t).1, .agg [int1 (parseT t).2.1, int1 (parseT t).2.2]]) := by
  refine DFun.data (DFun.body Tryd.func18 rfl (by kernel_rfl) ?_)
  repeat' (first | with_reducible rfl | ((conv => whnf); first | refine And.intro ?_ ?_ | (intro h; first | with_reducible exact tf_no h | with_reducible exact ft_no h | exact Bool.noConfusion h | with_reducible exact h | (have ht : true = true := h; clear ht h) | skip) | ((with_reducible refine DWl.mark ?_); repeat' (first | refine DWl.cons ?_ ?_ | exact DWl.nil | exact DW.same _ rfl | exact DW.ref _ _ _ rfl | exact DW.arr _ _ _ rfl | exact DW.sub _ _ _ _ rfl | exact DW.nilLst _ | refine DW.aggl ?_ | refine DW.tupl ?_ | refine DW.clol ?_ ?_ | refine DW.int ?_ | refine DW.bool ?_ | refine DW.str ?_)) | ((with_reducible refine Tri.mark ?_); first | refine Tri.loop ps18 (PsI t) (fun i => i.1) (t.size + 1, t, []) (by kernel_rfl) (Weak.list [(0, some 0), (1, none)] [] (by kernel_rfl) ?_ ?_) ?_ ?_) | ((with_reducible refine ECall.mark ?_); first | refine ECall.only ?_ (fun h => nomatch h) | refine ECall.only ?_ ?_) | ((with_reducible refine Drawn.mark ?_); first | refine Drawn.quiet (by kernel_rfl) ?_) | refine dcell_ok rfl ?_ | refine AppC.new ?_))
  all_goals first | (with_reducible refine enters_mark ?_; kernel_rfl) | (with_reducible refine boolT_mark ?_; kernel_rfl) | rfl | trivial | assumption | exact Nat.le_of_ble_eq_true rfl | (show entersB _ _ = true; kernel_rfl) | exact DW.same _ rfl | exact DW.ref _ _ _ rfl | exact DW.arr _ _ _ rfl | refine DW.int ?_ | refine dvb ?_ | refine dvi ?_ | exact OW.cells rfl rfl (DWl.same rfl) | exact Nat.zero_le _ | omega | skip
  all_goals repeat' (first | refine OW.cells rfl rfl ?_ | exact DW.nilArr _ rfl | refine DWl.cons ?_ ?_ | exact DWl.nil | exact DW.same _ rfl | exact DW.ref _ _ _ rfl | exact DW.arr _ _ _ rfl | exact DW.sub _ _ _ _ rfl | exact DW.nilLst _ | refine DW.aggl ?_ | refine DW.tupl ?_ | refine DW.clol ?_ ?_)
  all_goals try ((conv => whnf); with_reducible first | refine Round.mark ?_ | refine Tells.mark ?_ | refine Retold.mark ?_)
  all_goals try first | (show (_ : Bool) = _; simp_all; done) | (show (_ : Int) < _; simp at *; omega) | (show (_ : Int) ≤ _; simp at *; omega) | (show (_ : Nat) < _; simp at *; omega) | (show (_ : Nat) ≤ _; simp at *; omega)
  · conv => whnf
    exact rowM_nil
  · exact ps_zero t
  · rename_i i hi
    have h0 := h
    obtain ⟨z1, z2, z3⟩ := ps_szs hi ht
    have hc : DPure Tryd.prog 36 [strV i.2.1, .v (.string lineB)] (.tup [strV (lineOf i.2.1), strV (restOf i.2.1), bl (endOf i.2.1)]) := cut36_E i.2.1 z1
    repeat' (first | with_reducible rfl | ((conv => whnf); first | refine And.intro ?_ ?_ | (intro h; first | with_reducible exact tf_no h | with_reducible exact ft_no h | exact Bool.noConfusion h | with_reducible exact h | (have ht : true = true := h; clear ht h) | skip) | ((with_reducible refine DWl.mark ?_); repeat' (first | refine DWl.cons ?_ ?_ | exact DWl.nil | exact DW.same _ rfl | exact DW.ref _ _ _ rfl | exact DW.arr _ _ _ rfl | exact DW.sub _ _ _ _ rfl | exact DW.nilLst _ | refine DW.aggl ?_ | refine DW.tupl ?_ | refine DW.clol ?_ ?_ | refine DW.int ?_ | refine DW.bool ?_ | refine DW.str ?_)) | ((with_reducible refine SCall.mark ?_); first | refine SCall.data (hc) rfl rfl ?_ | refine SCall.scal (hc) rfl rfl ?_ | refine SCall.data (read37_D (lineOf i.2.1) z2) rfl rfl ?_ | refine SCall.scal (read37_D (lineOf i.2.1) z2) rfl rfl ?_) | ((with_reducible refine PCall.mark ?_); first | refine PCall.mk (hc) rfl rfl ?_ | refine PCall.mk (read37_D (lineOf i.2.1) z2) rfl rfl ?_) | ((with_reducible refine GCall.mark ?_); first | refine GCall.data (fun _ => hc) rfl rfl ?_ | refine GCall.scal (fun _ => hc) rfl rfl ?_ | refine GCall.data (fun _ => read37_D (lineOf i.2.1) z2) rfl rfl ?_ | refine GCall.scal (fun _ => read37_D (lineOf i.2.1) z2) rfl rfl ?_) | ((with_reducible refine MCall.mark ?_); first | refine MCall.data (fun _ => hc) rfl rfl ?_ | refine MCall.plain (PCall.mk (hc) rfl rfl ?_) | refine MCall.data (fun _ => read37_D (lineOf i.2.1) z2) rfl rfl ?_ | refine MCall.plain (PCall.mk (read37_D (lineOf i.2.1) z2) rfl rfl ?_)) | ((with_reducible refine ECall.mark ?_); first | refine ECall.only ?_ (fun h => nomatch h) | refine ECall.only ?_ ?_) | ((with_reducible refine Drawn.mark ?_); first | refine Drawn.quiet (by kernel_rfl) ?_) | refine dcell_ok rfl ?_ | refine AppC.new ?_))
    all_goals try ((conv => whnf); with_reducible refine Round.mark ?_)
    all_goals try first | ((with_reducible show Option.isSome (slElem _ _) = true); kernel_rfl) | ((with_reducible show slElem _ _ = some _); kernel_rfl) | ((with_reducible refine enters_mark ?_); kernel_rfl) | (with_reducible assumption) | ((with_reducible show List.all _ DV.one = true); rfl) | ((with_reducible show (_ : Nat) = _); rfl) | ((with_reducible show (_ == true) = true); simpa using h) | ((with_reducible show (_ : Nat) ≤ _); exact Nat.le_of_ble_eq_true rfl) | ((with_reducible show (_ : Int) ≤ _); first | omega | decide) | ((with_reducible show (_ : Int) < _); first | omega | decide) | ((with_reducible show (_ : Nat) < _); omega) | ((with_reducible show (_ : Nat) ≤ _); omega)
    all_goals try (show (_ : Nat) < List.length [_, _, _]; simp; done)
    all_goals try (show (_ : Nat) < List.length [_, _]; simp; done)
    · conv => whnf
      exact Tells.of (r1 := .tup [mxs [], .agg [int1 (i.2.2.length + 1 : Nat), int1 30]]) (by rw [ps_full hi h0 h]) (Tells.mk (DW.tupl (DWl.cons (DW.nilLst _) (DWl.cons (DW.aggl (DWl.cons (DW.int rfl) (DWl.cons (DW.int rfl) DWl.nil))) DWl.nil))))
    · exact grant18 h
    · conv => whnf
      exact Tells.of (r1 := .tup [mxs [], .agg [int1 (i.2.2.length + 1 : Nat), int1 20]]) (by rw [ps_bad hi h0 ‹decide ((32 : Int) ≤ ((i.2.2.length : Nat) : Int)) = false› h]) (Tells.mk (DW.tupl (DWl.cons (DW.nilLst _) (DWl.cons (DW.aggl (DWl.cons (DW.int rfl) (DWl.cons (DW.int rfl) DWl.nil))) DWl.nil))))
    · exact rm_b1 _
    · exact rm_b2 z3
    · exact rm_b3 z3
    · have hnx := ps_next hi h0 ‹decide ((32 : Int) ≤ ((i.2.2.length : Nat) : Int)) = false› h
      refine Round.go (fun _ => (i.1 - 1, restOf i.2.1, i.2.2 ++ [(readP (lineOf i.2.1)).1])) hnx.1 hnx.2 (Weak.list [(0, some 0), (1, some 4)] [] (by kernel_rfl) ?_ ?_)
      · repeat' (first | exact OW.cells rfl rfl (DWl.eq (rowM_push i.2.2 _) (rowM_all _)) | exact pushM _ _ | exact wpush _ _ z3 | exact DW.same _ rfl | exact DW.ref _ _ _ rfl | exact DW.arr _ _ _ rfl | exact OW.cells rfl rfl (DWl.same rfl) | refine OW.cells rfl rfl ?_ | refine DWl.cons ?_ ?_ | exact DWl.nil | exact DW.nilArr _ rfl | exact DW.nilLst _ | refine DW.clol ?_ ?_ | refine DW.aggl ?_ | refine DW.tupl ?_ | refine DW.int ?_ | refine DW.bool ?_ | refine DW.str ?_ | refine DW.arrE rfl ?_ | ((conv => whnf); first | refine And.intro ?_ ?_ | trivial))
      · repeat' (first | exact OW.cells rfl rfl (DWl.eq (rowM_push i.2.2 _) (rowM_all _)) | exact pushM _ _ | exact wpush _ _ z3 | exact DW.same _ rfl | exact DW.ref _ _ _ rfl | exact DW.arr _ _ _ rfl | exact OW.cells rfl rfl (DWl.same rfl) | refine OW.cells rfl rfl ?_ | refine DWl.cons ?_ ?_ | exact DWl.nil | exact DW.nilArr _ rfl | exact DW.nilLst _ | refine DW.clol ?_ ?_ | refine DW.aggl ?_ | refine DW.tupl ?_ | refine DW.int ?_ | refine DW.bool ?_ | refine DW.str ?_ | refine DW.arrE rfl ?_ | ((conv => whnf); first | refine And.intro ?_ ?_ | trivial))
  · rename_i i hi
    conv => whnf
    exact Tells.of (r1 := .tup [mxs i.2.2, .agg [int1 0, int1 0]]) (by rw [ps_end hi h]) (Tells.mk (DW.tupl (DWl.cons (DW.pubM rfl rfl rfl rfl (mxsRow _) (rowM_eq _)) (DWl.cons (DW.aggl (DWl.cons (DW.int rfl) (DWl.cons (DW.int rfl) DWl.nil))) DWl.nil))))
end Go.Proofs.YtgaghkchdiepoaaDoor

/- A storm is fit; the chapter's first example. -/
namespace Go.Proofs.YtgaghkchdiepoaaDoor
open Go.RowKit Go.Dl
attribute [local irreducible] Tri SCall TSem ECall Drawn DFun QSem PSem PCall GCall MCall Round Weak dloadE OW DWl Tells Retold ESem
theorem fit_mem {n : Int} {l : List Mx} (h1 : 1 ≤ n ∧ n ≤ 16) (h2 : l.length ≤ 32) (h : ∀ m ∈ l, EntP n m) : FitP n l :=
  ⟨h1.1, h1.2, h2, fun i hi => h _ (by rw [List.getD_eq_getElem?_getD, List.getElem?_eq_getElem hi]; exact List.getElem_mem hi)⟩
theorem mod_range (a : Int) {m : Int} (h : 0 < m) : 0 ≤ a % m ∧ a % m < m := ⟨Int.emod_nonneg _ (by omega), Int.emod_lt_of_pos _ h⟩
theorem tC_range {s a b : Int} (hs : 1 ≤ s) : a % s ≤ tC s a b ∧ tC s a b ≤ s := by
  unfold tC
  have h1 := mod_range a (show 0 < s by omega)
  have h2 := mod_range b (show 0 < s - a % s + 1 by omega)
  omega
theorem other {n a r : Int} (ha : 0 ≤ a ∧ a < n) (hr : 0 ≤ r ∧ r < n - 1) : a ≠ (a + 1 + r) % n := by
  by_cases h : a + 1 + r < n
  · rw [Int.emod_eq_of_lt (by omega) h]; omega
  · have e : (a + 1 + r) % n = a + 1 + r - n := by
      have h1 : (a + 1 + r - n + n) % n = (a + 1 + r - n) % n := Int.add_emod_right _ _
      rw [show a + 1 + r - n + n = a + 1 + r by omega] at h1
      rw [h1, Int.emod_eq_of_lt (by omega) (by omega)]
    rw [e]; omega
theorem ent_mk {n kd fr til rate a b : Int} (h : 0 ≤ fr ∧ fr ≤ 1048576 ∧ fr ≤ til ∧ til ≤ 1048576 ∧ (((1 ≤ kd ∧ kd ≤ 3) ∧ 0 ≤ rate ∧ rate ≤ 1000 ∧ a = 0 ∧ b = 0) ∨ (kd = 4 ∧ rate = 0 ∧ (0 ≤ a ∧ a < n) ∧ (0 ≤ b ∧ b < n) ∧ a ≠ b) ∨ (kd = 5 ∧ rate = 0 ∧ (0 ≤ a ∧ a < n) ∧ b = 0))) : EntP n ⟨kd, fr, til, rate, a, b⟩ := h
theorem storm_fit {n s x : Int} (hn : 1 ≤ n ∧ n ≤ 16) (hs : 1 ≤ s ∧ s ≤ 1048576) : FitP n (stormT n s x) := by
  have r1 := mod_range (dr x 1) (show (0 : Int) < 400 by decide)
  have r2 := mod_range (dr x 2) (show (0 : Int) < 300 by decide)
  have r3 := mod_range (dr x 3) (show (0 : Int) < 500 by decide)
  have r4 := mod_range (dr x 4) (show 0 < s by omega)
  have t4 := tC_range (s := s) (a := dr x 4) (b := dr x 5) hs.1
  have r6 := mod_range (dr x 6) (show 0 < n by omega)
  have r7 := mod_range (dr x 7) (show 0 < s by omega)
  have t7 := tC_range (s := s) (a := dr x 7) (b := dr x 8) hs.1
  have r9 := mod_range (dr x 9) (show 0 < n by omega)
  have hb4 : ∀ m ∈ ([⟨1, 0, s, dr x 1 % 400, 0, 0⟩, ⟨2, 0, s, dr x 2 % 300, 0, 0⟩, ⟨3, 0, s, dr x 3 % 500, 0, 0⟩, ⟨5, dr x 4 % s, tC s (dr x 4) (dr x 5), 0, dr x 6 % n, 0⟩] : List Mx), EntP n m := by
    intro m hm
    simp only [List.mem_cons, List.not_mem_nil, or_false] at hm
    rcases hm with rfl | rfl | rfl | rfl
    · exact ent_mk (by omega)
    · exact ent_mk (by omega)
    · exact ent_mk (by omega)
    · exact ent_mk (by omega)
  by_cases h2 : n < 2
  · rw [storm_lo hn hs h2, raw4_eq hn hs]
    exact fit_mem hn (by simp) hb4
  · rw [storm_hi hn hs h2, raw4_eq hn hs, rawS_eq (by omega) hs]
    refine fit_mem hn (by simp) fun m hm => ?_
    rcases List.mem_append.1 hm with hm | hm
    · exact hb4 m hm
    · rw [List.mem_singleton] at hm
      subst hm
      have r10 := mod_range (dr x 10) (show 0 < n - 1 by omega)
      have rb := mod_range (dr x 9 % n + 1 + dr x 10 % (n - 1)) (show 0 < n by omega)
      have ho := other r9 r10
      exact ent_mk (by omega)
def l0 : List Stp := [⟨6, 0, 0, ByteArray.empty, 0, 0⟩, ⟨6, 1, 0, ByteArray.empty, 0, 0⟩]
def m0 : Mx := ⟨4, 0, 1, 0, 0, 1⟩
def out0 : List Stp := [⟨14, 0, 1, ByteArray.empty, 0, 0⟩, ⟨6, 0, 0, ByteArray.empty, 0, 0⟩, ⟨15, 0, 1, ByteArray.empty, 0, 0⟩, ⟨6, 1, 0, ByteArray.empty, 0, 0⟩]
theorem m0_ent {n : Int} (h : 2 ≤ n) : EntP n m0 := ⟨by decide, by decide, by decide, by decide, .inr (.inl ⟨rfl, rfl, ⟨by decide, by show (0 : Int) < n; omega⟩, ⟨by decide, by show (1 : Int) < n; omega⟩, by decide⟩)⟩
theorem m0_fit {n : Int} (h : 2 ≤ n ∧ n ≤ 16) : FitP n [m0] := fit_mem (by omega) (by decide) fun m hm => by
  rw [List.mem_singleton] at hm; subst hm; exact m0_ent h.1
theorem lay0 : layT [m0] l0 0 = out0 := by kernel_rfl
def s0 : ByteArray := ⟨#[115, 101, 118, 101, 114, 32, 48, 32, 49, 32, 48, 32, 49]⟩
def s1 : ByteArray := ⟨#[115, 101, 118, 101, 114, 32, 48, 32, 49, 32, 48, 32, 49, 10]⟩
theorem itoa_1 (i : Nat) (h : i < 10) : Lib.itoa (i : Int) = [UInt8.ofNat (48 + i)] := by rw [Lib.itoa_nonneg, Lib.decDigits_one h]
theorem n0 : numB 0 = ⟨#[48]⟩ := by show bs (Lib.itoa ((0 : Nat) : Int)) = _; rw [itoa_1 0 (by decide)]; decide
theorem n1 : numB 1 = ⟨#[49]⟩ := by show bs (Lib.itoa ((1 : Nat) : Int)) = _; rw [itoa_1 1 (by decide)]; decide
theorem line0 : lineP m0 = s0 := by
  show addN (addN (addN (addN wSever 0) 1) 0) 1 = s0
  unfold addN
  rw [n0, n1]
  decide +kernel
theorem text0 : textT [m0] = s1 := by
  rw [text_yes (by rw [show fitB 16 [m0] = true from decide_eq_true (m0_fit (by decide))]; rfl)]
  show addL ByteArray.empty m0 = s1
  unfold addL
  rw [line0]
  decide +kernel
theorem read0 : readP s0 = (m0, true) := by
  have hk : kindOf s0 = 4 := by decide +kernel
  have hn : numsK s0 (wordsB s0).length = some [0, 1, 0, 1] := by decide +kernel
  rw [readP, hk, hn]
  show ((m0 : Mx), (bif entB 16 m0 then lineP m0 == s0 else false)) = (m0, true)
  rw [show entB 16 m0 = true from ent_iff.2 (m0_ent (by decide)), line0]
  rw [ba_eq.2 rfl]; rfl
theorem parse0 : parseT s1 = ([m0], 0, 0) := by
  have e1 : lineOf s1 = s0 := by decide +kernel
  have e2 : endOf s1 = true := by decide +kernel
  have e3 : restOf s1 = ByteArray.empty := by decide +kernel
  have hne : s1 ≠ ByteArray.empty := by decide +kernel
  rw [parseT, par_next (by decide) hne (by decide) (by rw [e1, e2, read0]; exact ⟨rfl, rfl⟩), e1, e3, read0]
  rw [par_end (by decide) rfl]; rfl
theorem storm_len : (stormT 2 9 5).length = 5 := by
  rw [storm_hi (by decide) (by decide) (by decide)]; rfl
end Go.Proofs.YtgaghkchdiepoaaDoor
