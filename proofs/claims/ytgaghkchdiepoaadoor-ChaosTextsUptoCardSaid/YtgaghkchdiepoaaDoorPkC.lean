/- A plan laid: the document's. -/
import Derived.Test.YtgaghkchdiepoaaDoorPkB

namespace Go.Proofs.YtgaghkchdiepoaaDoor
open Go.RowKit Go.Dl
attribute [local irreducible] Tri SCall TSem ECall Drawn DFun QSem PSem PCall GCall MCall Round Weak dloadE OW DWl Tells IntKind.wrap Retold ESem
theorem begins35_S (x e i n : Int) (m : Mx) (hm : EntP n m) : SCall Tryd.prog 35 [.agg (mxD m), int1 i, int1 e, .ref 0 0] (DS x) fun r s => r = stps (harmT i e m x).1 ∧ s = DS (harmT i e m x).2 := by
  obtain ⟨h1, h2, h3, h4, h5⟩ := hm
  obtain ⟨kd, fr, til, rate, a, b⟩ := m
  simp only at h1 h2 h3 h4 h5
  have hk : (kd = 1 ∨ kd = 2 ∨ kd = 3 ∨ kd = 4 ∨ kd = 5) := by omega
  rcases hk with rfl | rfl | rfl | rfl | rfl
  · exact begins35_1 x e i fr til rate a b
  · exact begins35_2 x e i fr til rate a b
  · exact begins35_3 x e i fr til rate a b
  · exact begins35_4 x e i fr til rate a b
  · exact begins35_5 x e i fr til rate a b
def d16 (l : List Mx) (steps : List Stp) (i : Nat × List Stp × Int) : St := ⟨0, tmOf [(1, stps steps), (2, mxs l), (9, .ref 0 0), (10, .arr 1 i.2.1.length), (11, int1 i.1)], .of [(0, ⟨68, 1, [u64 i.2.2]⟩), (1, ⟨34, 6, rowS i.2.1⟩)] 2⟩
def d16A (l : List Mx) (steps : List Stp) (i : Nat) (k : Nat × List Stp × Int) : St := ⟨0, tmOf [(1, stps steps), (2, mxs l), (9, .ref 0 0), (10, .arr 1 k.2.1.length), (11, int1 i), (12, int1 k.1)], .of [(0, ⟨68, 1, [u64 k.2.2]⟩), (1, ⟨34, 6, rowS k.2.1⟩)] 2⟩
def d16B (l : List Mx) (steps : List Stp) (i : Nat) (k : Nat × List Stp × Int) : St := ⟨0, tmOf [(1, stps steps), (2, mxs l), (9, .ref 0 0), (10, .arr 1 k.2.1.length), (11, int1 i), (13, int1 k.1)], .of [(0, ⟨68, 1, [u64 k.2.2]⟩), (1, ⟨34, 6, rowS k.2.1⟩)] 2⟩
theorem rowS_app (out p : List Stp) : (rowS out).take (out.length * 6) ++ (p.map stpD).flatten = rowS (out ++ p) := by
  rw [List.take_of_length_le (by rw [rowS_len]; exact Nat.le_refl _), rowS_append]; rfl
theorem len_app (out p : List Stp) : out.length + (p.map stpD).length = (out ++ p).length := by simp
theorem le_mapS {l : List Stp} {k : Nat} (h : decide (((k : Nat) : Int) ≤ (((l.map stpD).length : Nat) : Int)) = true) : k ≤ l.length := by simpa using h
theorem gt_mapS {l : List Stp} {k : Nat} (h : decide (((k : Nat) : Int) ≤ (((l.map stpD).length : Nat) : Int)) = false) : l.length < k := by simpa using h
theorem lt_mapM {l : List Mx} {k : Nat} (h : decide (((k : Nat) : Int) < (((l.map mxD).length : Nat) : Int)) = true) : k < l.length := by simpa using h
theorem ge_mapM {l : List Mx} {k : Nat} (h : decide (((k : Nat) : Int) < (((l.map mxD).length : Nat) : Int)) = false) : l.length ≤ k := by simpa using h
set_option maxRecDepth 20000 in
theorem ap_b2 {m k : Nat} (h : m ≤ 1000000) (hk : k ≤ 1) : (m + k) * Tryd.prog.types[34].bytes ≤ 140737488355328 := by
  show (m + k) * 56 ≤ _
  omega
theorem ap_b3 {m k : Nat} (h : m ≤ 1000000) (hk : k ≤ 1) : m + k ≤ maxLen := by simp only [maxLen]; omega
theorem ap_b1 : True := trivial
attribute [local irreducible] healT harmT stepU valU rowS
set_option maxRecDepth 20000 in
set_option maxHeartbeats 1000000 in
theorem lay16_D (n : Int) (l : List Mx) (steps : List Stp) (x : Int) (hf : FitP n l) (hs : steps.length ≤ 4096) : DPure Tryd.prog 16 [int1 n, stps steps, mxs l, u64 x] (stps (layT l steps x)) := by
  have h9 := fit9_D n l
  rw [show fitB n l = true from decide_eq_true hf] at h9
  have hl : l.length ≤ 32 := hf.2.2.1
  have hE : ∀ k, k < l.length → EntP n (l.getD k mx0) := hf.2.2.2
  refine DFun.data (DFun.body Tryd.func16 rfl (by kernel_rfl) ?_)
  repeat' (first | with_reducible rfl | ((conv => whnf); first | refine And.intro ?_ ?_ | (intro h; first | with_reducible exact tf_no h | with_reducible exact ft_no h | exact Bool.noConfusion h | with_reducible exact h | (refine not_t h ?_; rfl) | (refine not_f h ?_; rfl) | (have ht : true = true := h; clear ht h) | skip) | ((with_reducible refine DWl.mark ?_); repeat' (first | refine DWl.cons ?_ ?_ | exact DWl.nil | exact DW.same _ rfl | exact DW.ref _ _ _ rfl | exact DW.arr _ _ _ rfl | exact DW.sub _ _ _ _ rfl | exact DW.nilLst _ | refine DW.aggl ?_ | refine DW.tupl ?_ | refine DW.clol ?_ ?_ | refine DW.int ?_ | refine DW.bool ?_ | refine DW.str ?_)) | ((with_reducible refine SCall.mark ?_); first | refine SCall.data (h9) rfl rfl ?_ | refine SCall.scal (h9) rfl rfl ?_) | ((with_reducible refine PCall.mark ?_); first | refine PCall.mk (h9) rfl rfl ?_) | ((with_reducible refine GCall.mark ?_); first | refine GCall.data (fun _ => h9) rfl rfl ?_ | refine GCall.scal (fun _ => h9) rfl rfl ?_) | ((with_reducible refine MCall.mark ?_); first | refine MCall.data (fun _ => h9) rfl rfl ?_ | refine MCall.plain (PCall.mk (h9) rfl rfl ?_)) | ((with_reducible refine Tri.mark ?_); first | (refine Tri.at 11 (int1 0) (by rfl) ?_; refine Tri.loop (d16 l steps) (fun i => i.1 ≤ steps.length + 1 ∧ i.2 = layK l steps x i.1) (fun i => steps.length + 1 - i.1) (0, [], x) (by kernel_rfl) (Weak.list [(0, some 0), (1, none)] [] (by kernel_rfl) ?_ ?_) ?_ ?_)) | ((with_reducible refine ECall.mark ?_); first | refine ECall.only ?_ (fun h => nomatch h) | refine ECall.only ?_ ?_) | ((with_reducible refine Drawn.mark ?_); first | refine Drawn.quiet (by kernel_rfl) ?_) | refine dcell_ok rfl ?_ | refine AppC.new ?_))
  all_goals first | (with_reducible refine enters_mark ?_; kernel_rfl) | (with_reducible refine boolT_mark ?_; kernel_rfl) | rfl | trivial | assumption | exact Nat.le_of_ble_eq_true rfl | (show entersB _ _ = true; kernel_rfl) | exact DW.same _ rfl | exact DW.ref _ _ _ rfl | exact DW.arr _ _ _ rfl | refine DW.int ?_ | refine dvb ?_ | refine dvi ?_ | exact OW.cells rfl rfl (DWl.same rfl) | exact Nat.zero_le _ | omega | skip
  all_goals repeat' (first | refine OW.cells rfl rfl ?_ | exact DW.nilArr _ rfl | refine DWl.cons ?_ ?_ | exact DWl.nil | exact DW.same _ rfl | exact DW.ref _ _ _ rfl | exact DW.arr _ _ _ rfl | exact DW.sub _ _ _ _ rfl | exact DW.nilLst _ | refine DW.aggl ?_ | refine DW.tupl ?_ | refine DW.clol ?_ ?_)
  all_goals try ((conv => whnf); with_reducible first | refine Round.mark ?_ | refine Tells.mark ?_ | refine Retold.mark ?_)
  all_goals try first | (show (_ : Bool) = _; simp_all; done) | (show (_ : Int) < _; simp at *; omega) | (show (_ : Int) ≤ _; simp at *; omega) | (show (_ : Nat) < _; simp at *; omega) | (show (_ : Nat) ≤ _; simp at *; omega)
  · conv => whnf
    exact rowS_nil
  · rename_i i hi
    have hle := le_mapS h
    have hix : i.2 = layK l steps x i.1 := hi.2
    have hsm := lay_small (x := x) hl hs hi.1
    rw [← hix] at hsm
    conv => whnf
    refine Tri.loop (d16A l steps i.1) (fun k => k.1 ≤ l.length ∧ k.2 = (healsF i.1 steps.length (l.take k.1) i.2.1, i.2.2)) (fun k => l.length - k.1) (0, i.2) (by kernel_rfl) (Weak.list [(0, some 0), (1, some 1)] [] (by kernel_rfl) ?_ ?_) ⟨Nat.zero_le _, rfl⟩ ?_
    · repeat' (first | exact OW.cells rfl rfl (DWl.same (rowS_all _)) | exact OW.cells rfl rfl (DWl.cons (DW.int rfl) DWl.nil) | exact DW.same _ rfl | exact DW.ref _ _ _ rfl | exact DW.arr _ _ _ rfl | exact OW.cells rfl rfl (DWl.same rfl) | refine OW.cells rfl rfl ?_ | refine DWl.cons ?_ ?_ | exact DWl.nil | exact DW.nilArr _ rfl | exact DW.nilLst _ | refine DW.clol ?_ ?_ | refine DW.aggl ?_ | refine DW.tupl ?_ | refine DW.int ?_ | refine DW.bool ?_ | refine DW.str ?_ | refine DW.arrE rfl ?_ | ((conv => whnf); first | refine And.intro ?_ ?_ | trivial))
    · repeat' (first | exact OW.cells rfl rfl (DWl.same (rowS_all _)) | exact OW.cells rfl rfl (DWl.cons (DW.int rfl) DWl.nil) | exact DW.same _ rfl | exact DW.ref _ _ _ rfl | exact DW.arr _ _ _ rfl | exact OW.cells rfl rfl (DWl.same rfl) | refine OW.cells rfl rfl ?_ | refine DWl.cons ?_ ?_ | exact DWl.nil | exact DW.nilArr _ rfl | exact DW.nilLst _ | refine DW.clol ?_ ?_ | refine DW.aggl ?_ | refine DW.tupl ?_ | refine DW.int ?_ | refine DW.bool ?_ | refine DW.str ?_ | refine DW.arrE rfl ?_ | ((conv => whnf); first | refine And.intro ?_ ?_ | trivial))
    intro k hk
    have hklen : k.2.1.length ≤ 300032 := by
      have h2 := heals_len i.1 steps.length (l.take k.1) i.2.1
      rw [show healsF i.1 steps.length (l.take k.1) i.2.1 = k.2.1 from (congrArg Prod.fst hk.2).symm, List.length_take] at h2
      omega
    have hhl := heal_len i.1 steps.length (l.getD (((k.1 : Nat) : Int)).toNat mx0)
    have h34 : DPure Tryd.prog 34 [.agg (mxD (l.getD (((k.1 : Nat) : Int)).toNat mx0)), int1 i.1, int1 (((steps.map stpD).length : Nat) : Int)] (stps (healT i.1 steps.length (l.getD (((k.1 : Nat) : Int)).toNat mx0))) := by
      rw [List.length_map]; exact ends34_D _ _ _
    repeat' (first | with_reducible rfl | ((conv => whnf); first | refine And.intro ?_ ?_ | (intro h; first | with_reducible exact tf_no h | with_reducible exact ft_no h | exact Bool.noConfusion h | with_reducible exact h | (have ht : true = true := h; clear ht h) | skip) | ((with_reducible refine DWl.mark ?_); repeat' (first | refine DWl.cons ?_ ?_ | exact DWl.nil | exact DW.same _ rfl | exact DW.ref _ _ _ rfl | exact DW.arr _ _ _ rfl | exact DW.sub _ _ _ _ rfl | exact DW.nilLst _ | refine DW.aggl ?_ | refine DW.tupl ?_ | refine DW.clol ?_ ?_ | refine DW.int ?_ | refine DW.bool ?_ | refine DW.str ?_)) | ((with_reducible refine SCall.mark ?_); first | refine SCall.data (h34) rfl rfl ?_) | ((with_reducible refine GCall.mark ?_); first | refine GCall.data (fun _ => h34) rfl rfl ?_) | ((with_reducible refine MCall.mark ?_); first | refine MCall.data (fun _ => h34) rfl rfl ?_) | ((with_reducible refine ECall.mark ?_); first | refine ECall.only ?_ (fun h => nomatch h) | refine ECall.only ?_ ?_) | ((with_reducible refine Drawn.mark ?_); first | refine Drawn.quiet (by kernel_rfl) ?_) | refine dloadE_map (mx0) ?_ ?_ | exact OW.cells rfl rfl (DWl.same (rowS_all _)) | exact OW.cells rfl rfl (DWl.cons (DW.int rfl) DWl.nil) | exact DW.tupl DWl.nil | exact True.intro | refine dcell_ok rfl ?_ | refine AppC.new ?_))
    all_goals try ((conv => whnf); with_reducible refine Round.mark ?_)
    all_goals try first | exact DWl.same (rowS_all _) | ((with_reducible show Option.isSome (slElem _ _) = true); kernel_rfl) | ((with_reducible show slElem _ _ = some _); kernel_rfl) | ((with_reducible refine enters_mark ?_); kernel_rfl) | (with_reducible assumption) | ((with_reducible show List.all _ DV.one = true); rfl) | ((with_reducible show (_ : Nat) = _); rfl) | ((with_reducible show (_ == true) = true); simpa using h) | ((with_reducible show (_ : Nat) ≤ _); exact Nat.le_of_ble_eq_true rfl) | ((with_reducible show (_ : Int) ≤ _); first | omega | decide) | ((with_reducible show (_ : Int) < _); first | omega | decide) | ((with_reducible show (_ : Nat) < _); omega) | ((with_reducible show (_ : Nat) ≤ _); omega)
    · exact lt_map (lt_mapM h)
    · exact lt_mapM h
    · exact sr_b1 _
    · exact ap_b2 (by omega) (by rw [List.length_map]; exact hhl)
    · exact ap_b3 (by omega) (by rw [List.length_map]; exact hhl)
    · have hlt1 := lt_mapM h
      refine Round.go (fun _ => (k.1 + 1, k.2.1 ++ healT i.1 steps.length (l.getD (((k.1 : Nat) : Int)).toNat mx0), k.2.2)) ⟨hlt1, getK hlt1 hk.2⟩ (by show l.length - (k.1 + 1) < l.length - k.1; omega) (Weak.list [(0, some 0), (1, some 2)] [] (by kernel_rfl) ?_ ?_)
      · repeat' (first | exact wsucc hlt1 (by omega) | exact OW.cells rfl rfl (DWl.eq (rowS_app _ _) (rowS_all _)) | exact OW.cells rfl rfl (DWl.cons (DW.int rfl) DWl.nil) | exact DW.arrE rfl (len_app _ _) | exact DW.same _ rfl | exact DW.ref _ _ _ rfl | exact DW.arr _ _ _ rfl | exact OW.cells rfl rfl (DWl.same rfl) | refine OW.cells rfl rfl ?_ | refine DWl.cons ?_ ?_ | exact DWl.nil | exact DW.nilArr _ rfl | exact DW.nilLst _ | refine DW.clol ?_ ?_ | refine DW.aggl ?_ | refine DW.tupl ?_ | refine DW.int ?_ | refine DW.bool ?_ | refine DW.str ?_ | refine DW.arrE rfl ?_ | ((conv => whnf); first | refine And.intro ?_ ?_ | trivial))
      · repeat' (first | exact wsucc hlt1 (by omega) | exact OW.cells rfl rfl (DWl.eq (rowS_app _ _) (rowS_all _)) | exact OW.cells rfl rfl (DWl.cons (DW.int rfl) DWl.nil) | exact DW.arrE rfl (len_app _ _) | exact DW.same _ rfl | exact DW.ref _ _ _ rfl | exact DW.arr _ _ _ rfl | exact OW.cells rfl rfl (DWl.same rfl) | refine OW.cells rfl rfl ?_ | refine DWl.cons ?_ ?_ | exact DWl.nil | exact DW.nilArr _ rfl | exact DW.nilLst _ | refine DW.clol ?_ ?_ | refine DW.aggl ?_ | refine DW.tupl ?_ | refine DW.int ?_ | refine DW.bool ?_ | refine DW.str ?_ | refine DW.arrE rfl ?_ | ((conv => whnf); first | refine And.intro ?_ ?_ | trivial))
    have hk1 : k.2 = (healsF i.1 steps.length l i.2.1, i.2.2) := by
      have hge := ge_mapM ‹decide (((k.1 : Nat) : Int) < (((l.map mxD).length : Nat) : Int)) = false›
      rw [hk.2, List.take_of_length_le hge]
    have hf1 : k.2.1.length ≤ 300032 := hklen
    conv => whnf
    refine Tri.loop (d16B l steps i.1) (fun k2 => k2.1 ≤ l.length ∧ k2.2 = harmsF i.1 steps.length (l.take k2.1) k.2) (fun k2 => l.length - k2.1) (0, k.2) (by kernel_rfl) (Weak.list [(0, some 0), (1, some 1)] [] (by kernel_rfl) ?_ ?_) ⟨Nat.zero_le _, rfl⟩ ?_
    · repeat' (first | exact OW.cells rfl rfl (DWl.same (rowS_all _)) | exact OW.cells rfl rfl (DWl.cons (DW.int rfl) DWl.nil) | exact DW.same _ rfl | exact DW.ref _ _ _ rfl | exact DW.arr _ _ _ rfl | exact OW.cells rfl rfl (DWl.same rfl) | refine OW.cells rfl rfl ?_ | refine DWl.cons ?_ ?_ | exact DWl.nil | exact DW.nilArr _ rfl | exact DW.nilLst _ | refine DW.clol ?_ ?_ | refine DW.aggl ?_ | refine DW.tupl ?_ | refine DW.int ?_ | refine DW.bool ?_ | refine DW.str ?_ | refine DW.arrE rfl ?_ | ((conv => whnf); first | refine And.intro ?_ ?_ | trivial))
    · repeat' (first | exact OW.cells rfl rfl (DWl.same (rowS_all _)) | exact OW.cells rfl rfl (DWl.cons (DW.int rfl) DWl.nil) | exact DW.same _ rfl | exact DW.ref _ _ _ rfl | exact DW.arr _ _ _ rfl | exact OW.cells rfl rfl (DWl.same rfl) | refine OW.cells rfl rfl ?_ | refine DWl.cons ?_ ?_ | exact DWl.nil | exact DW.nilArr _ rfl | exact DW.nilLst _ | refine DW.clol ?_ ?_ | refine DW.aggl ?_ | refine DW.tupl ?_ | refine DW.int ?_ | refine DW.bool ?_ | refine DW.str ?_ | refine DW.arrE rfl ?_ | ((conv => whnf); first | refine And.intro ?_ ?_ | trivial))
    intro k2 hk2
    have hk2len : k2.2.1.length ≤ 300100 := by
      have h4 := harms_len i.1 steps.length (l.take k2.1) k.2
      rw [← hk2.2, List.length_take] at h4
      omega
    have hhl2 := harm_len i.1 steps.length (l.getD (((k2.1 : Nat) : Int)).toNat mx0) k2.2.2
    have h35 : k2.1 < l.length → SCall Tryd.prog 35 [.agg (mxD (l.getD (((k2.1 : Nat) : Int)).toNat mx0)), int1 i.1, int1 (((steps.map stpD).length : Nat) : Int), .ref 0 0] (DS k2.2.2) fun r s => r = stps (harmT i.1 steps.length (l.getD (((k2.1 : Nat) : Int)).toNat mx0) k2.2.2).1 ∧ s = DS (harmT i.1 steps.length (l.getD (((k2.1 : Nat) : Int)).toNat mx0) k2.2.2).2 := fun hk => by
      rw [List.length_map]; exact begins35_S _ _ _ n _ (hE k2.1 hk)
    repeat' (first | with_reducible rfl | ((conv => whnf); first | refine And.intro ?_ ?_ | (intro h; first | with_reducible exact tf_no h | with_reducible exact ft_no h | exact Bool.noConfusion h | with_reducible exact h | (have ht : true = true := h; clear ht h) | skip) | ((with_reducible refine DWl.mark ?_); repeat' (first | refine DWl.cons ?_ ?_ | exact DWl.nil | exact DW.same _ rfl | exact DW.ref _ _ _ rfl | exact DW.arr _ _ _ rfl | exact DW.sub _ _ _ _ rfl | exact DW.nilLst _ | refine DW.aggl ?_ | refine DW.tupl ?_ | refine DW.clol ?_ ?_ | refine DW.int ?_ | refine DW.bool ?_ | refine DW.str ?_)) | ((with_reducible refine SCall.mark ?_); first | refine SCall.at [0] (fun m => [(0, ⟨68, 1, [u64 (harmT i.1 steps.length (l.getD (((k2.1 : Nat) : Int)).toNat mx0) k2.2.2).2]⟩)]) (fun _ => stps (harmT i.1 steps.length (l.getD (((k2.1 : Nat) : Int)).toNat mx0) k2.2.2).1) 0 (h35 (lt_mapM ‹decide (((k2.1 : Nat) : Int) < (((l.map mxD).length : Nat) : Int)) = true›)) (by kernel_rfl) ?_ ?_ ?_ ?_ ?_) | ((with_reducible refine ECall.mark ?_); first | refine ECall.only ?_ (fun h => nomatch h) | refine ECall.only ?_ ?_) | ((with_reducible refine Drawn.mark ?_); first | refine Drawn.quiet (by kernel_rfl) ?_) | refine dloadE_map (mx0) ?_ ?_ | refine dloadE_map (stp0) ?_ ?_ | exact OW.cells rfl rfl (DWl.same (rowS_all _)) | exact OW.cells rfl rfl (DWl.cons (DW.int rfl) DWl.nil) | exact DW.tupl DWl.nil | exact True.intro | exact DW.same _ rfl | refine dcell_ok rfl ?_ | refine AppC.new ?_))
    all_goals try ((conv => whnf); with_reducible refine Round.mark ?_)
    all_goals try first | exact DWl.same (rowS_all _) | ((with_reducible show Option.isSome (slElem _ _) = true); kernel_rfl) | ((with_reducible show slElem _ _ = some _); kernel_rfl) | ((with_reducible refine enters_mark ?_); kernel_rfl) | (with_reducible assumption) | ((with_reducible show List.all _ DV.one = true); rfl) | ((with_reducible show (_ : Nat) = _); rfl) | ((with_reducible show (_ == true) = true); simpa using h) | ((with_reducible show (_ : Nat) ≤ _); exact Nat.le_of_ble_eq_true rfl) | ((with_reducible show (_ : Int) ≤ _); first | omega | decide) | ((with_reducible show (_ : Int) < _); first | omega | decide) | ((with_reducible show (_ : Nat) < _); omega) | ((with_reducible show (_ : Nat) ≤ _); omega)
    · exact lt_map (lt_mapM h)
    · exact lt_mapM h
    · exact sr_b1 _
    · exact ap_b2 (by omega) (by rw [List.length_map]; exact hhl2)
    · exact ap_b3 (by omega) (by rw [List.length_map]; exact hhl2)
    · have hlt2 := lt_mapM h
      refine Round.go (fun _ => (k2.1 + 1, k2.2.1 ++ (harmT i.1 steps.length (l.getD (((k2.1 : Nat) : Int)).toNat mx0) k2.2.2).1, (harmT i.1 steps.length (l.getD (((k2.1 : Nat) : Int)).toNat mx0) k2.2.2).2)) ⟨hlt2, getK2 hlt2 hk2.2⟩ (by show l.length - (k2.1 + 1) < l.length - k2.1; omega) (Weak.list [(0, some 0), (1, some 2)] [] (by kernel_rfl) ?_ ?_)
      · repeat' (first | exact wsucc hlt2 (by omega) | exact OW.cells rfl rfl (DWl.eq (rowS_app _ _) (rowS_all _)) | exact OW.cells rfl rfl (DWl.cons (DW.int rfl) DWl.nil) | exact DW.arrE rfl (len_app _ _) | exact DW.same _ rfl | exact DW.ref _ _ _ rfl | exact DW.arr _ _ _ rfl | exact OW.cells rfl rfl (DWl.same rfl) | refine OW.cells rfl rfl ?_ | refine DWl.cons ?_ ?_ | exact DWl.nil | exact DW.nilArr _ rfl | exact DW.nilLst _ | refine DW.clol ?_ ?_ | refine DW.aggl ?_ | refine DW.tupl ?_ | refine DW.int ?_ | refine DW.bool ?_ | refine DW.str ?_ | refine DW.arrE rfl ?_ | ((conv => whnf); first | refine And.intro ?_ ?_ | trivial))
      · repeat' (first | exact wsucc hlt2 (by omega) | exact OW.cells rfl rfl (DWl.eq (rowS_app _ _) (rowS_all _)) | exact OW.cells rfl rfl (DWl.cons (DW.int rfl) DWl.nil) | exact DW.arrE rfl (len_app _ _) | exact DW.same _ rfl | exact DW.ref _ _ _ rfl | exact DW.arr _ _ _ rfl | exact OW.cells rfl rfl (DWl.same rfl) | refine OW.cells rfl rfl ?_ | refine DWl.cons ?_ ?_ | exact DWl.nil | exact DW.nilArr _ rfl | exact DW.nilLst _ | refine DW.clol ?_ ?_ | refine DW.aggl ?_ | refine DW.tupl ?_ | refine DW.int ?_ | refine DW.bool ?_ | refine DW.str ?_ | refine DW.arrE rfl ?_ | ((conv => whnf); first | refine And.intro ?_ ?_ | trivial))
    · have := lt_mapS h
      rw [List.length_map]; omega
    · exact lt_mapS h
    · exact sr_b1 _
    · exact ap_b2 (by omega) (Nat.le_refl _)
    · exact ap_b3 (by omega) (Nat.le_refl _)
    · have hlt3 := lt_mapS h
      have hk3 : k2.2 = harmsF i.1 steps.length l k.2 := by
        have hge := ge_mapM ‹decide (((k2.1 : Nat) : Int) < (((l.map mxD).length : Nat) : Int)) = false›
        rw [hk2.2, List.take_of_length_le hge]
      have hlay := lay_round hix hk1 hk3
      refine Round.go (fun _ => (i.1 + 1, k2.2.1 ++ [(steps.getD (((i.1 : Nat) : Int)).toNat stp0)], k2.2.2)) ⟨by show i.1 + 1 ≤ steps.length + 1; omega, by show (_, _) = layK l steps x (i.1 + 1); rw [hlay, put_yes hlt3]⟩ (by show steps.length + 1 - (i.1 + 1) < steps.length + 1 - i.1; omega) (Weak.list [(0, some 0), (1, some 3)] [] (by kernel_rfl) ?_ ?_)
      · repeat' (first | exact wsucc hlt3 (by omega) | exact OW.cells rfl rfl (DWl.eq (rowS_push _ _) (rowS_all _)) | exact OW.cells rfl rfl (DWl.cons (DW.int rfl) DWl.nil) | exact DW.arrE rfl (pushS _ _) | exact DW.same _ rfl | exact DW.ref _ _ _ rfl | exact DW.arr _ _ _ rfl | exact OW.cells rfl rfl (DWl.same rfl) | refine OW.cells rfl rfl ?_ | refine DWl.cons ?_ ?_ | exact DWl.nil | exact DW.nilArr _ rfl | exact DW.nilLst _ | refine DW.clol ?_ ?_ | refine DW.aggl ?_ | refine DW.tupl ?_ | refine DW.int ?_ | refine DW.bool ?_ | refine DW.str ?_ | refine DW.arrE rfl ?_ | ((conv => whnf); first | refine And.intro ?_ ?_ | trivial))
      · repeat' (first | exact wsucc hlt3 (by omega) | exact OW.cells rfl rfl (DWl.eq (rowS_push _ _) (rowS_all _)) | exact OW.cells rfl rfl (DWl.cons (DW.int rfl) DWl.nil) | exact DW.arrE rfl (pushS _ _) | exact DW.same _ rfl | exact DW.ref _ _ _ rfl | exact DW.arr _ _ _ rfl | exact OW.cells rfl rfl (DWl.same rfl) | refine OW.cells rfl rfl ?_ | refine DWl.cons ?_ ?_ | exact DWl.nil | exact DW.nilArr _ rfl | exact DW.nilLst _ | refine DW.clol ?_ ?_ | refine DW.aggl ?_ | refine DW.tupl ?_ | refine DW.int ?_ | refine DW.bool ?_ | refine DW.str ?_ | refine DW.arrE rfl ?_ | ((conv => whnf); first | refine And.intro ?_ ?_ | trivial))
    · have hge3 := ge_mapS h
      have hk3 : k2.2 = harmsF i.1 steps.length l k.2 := by
        have hge := ge_mapM ‹decide (((k2.1 : Nat) : Int) < (((l.map mxD).length : Nat) : Int)) = false›
        rw [hk2.2, List.take_of_length_le hge]
      have hlay := lay_round hix hk1 hk3
      refine Round.go (fun _ => (i.1 + 1, k2.2)) ⟨by show i.1 + 1 ≤ steps.length + 1; omega, by show k2.2 = layK l steps x (i.1 + 1); rw [hlay, ← put_no hge3]⟩ (by show steps.length + 1 - (i.1 + 1) < steps.length + 1 - i.1; omega) (Weak.list [(0, some 0), (1, some 1)] [] (by kernel_rfl) ?_ ?_)
      · repeat' (first | exact wsucc (n := steps.length + 1) (by omega) (by omega) | exact OW.cells rfl rfl (DWl.same (rowS_all _)) | exact OW.cells rfl rfl (DWl.cons (DW.int rfl) DWl.nil) | exact DW.same _ rfl | exact DW.ref _ _ _ rfl | exact DW.arr _ _ _ rfl | exact OW.cells rfl rfl (DWl.same rfl) | refine OW.cells rfl rfl ?_ | refine DWl.cons ?_ ?_ | exact DWl.nil | exact DW.nilArr _ rfl | exact DW.nilLst _ | refine DW.clol ?_ ?_ | refine DW.aggl ?_ | refine DW.tupl ?_ | refine DW.int ?_ | refine DW.bool ?_ | refine DW.str ?_ | refine DW.arrE rfl ?_ | ((conv => whnf); first | refine And.intro ?_ ?_ | trivial))
      · repeat' (first | exact wsucc (n := steps.length + 1) (by omega) (by omega) | exact OW.cells rfl rfl (DWl.same (rowS_all _)) | exact OW.cells rfl rfl (DWl.cons (DW.int rfl) DWl.nil) | exact DW.same _ rfl | exact DW.ref _ _ _ rfl | exact DW.arr _ _ _ rfl | exact OW.cells rfl rfl (DWl.same rfl) | refine OW.cells rfl rfl ?_ | refine DWl.cons ?_ ?_ | exact DWl.nil | exact DW.nilArr _ rfl | exact DW.nilLst _ | refine DW.clol ?_ ?_ | refine DW.aggl ?_ | refine DW.tupl ?_ | refine DW.int ?_ | refine DW.bool ?_ | refine DW.str ?_ | refine DW.arrE rfl ?_ | ((conv => whnf); first | refine And.intro ?_ ?_ | trivial))
  · rename_i i hi
    have hge : i.1 = steps.length + 1 := by have := gt_mapS h; omega
    have e4 : i.2.1 = layT l steps x := by rw [layT, ← hge, ← hi.2]
    conv => whnf
    exact Tells.of (r1 := stps i.2.1) (by rw [e4]) (Tells.mk (DW.pubM rfl rfl rfl rfl (stpsRow _) (rowS_eq _)))
end Go.Proofs.YtgaghkchdiepoaaDoor

/- Steps counted by kind, by both. -/
namespace Go.Proofs.YtgaghkchdiepoaaDoor
open Go.RowKit Go.Dl
attribute [local irreducible] Tri SCall TSem ECall Drawn DFun QSem PSem PCall GCall MCall Round Weak dloadE OW DWl Tells IntKind.wrap Retold ESem
theorem intsRow (l : List Int) : ∀ r ∈ l.map intD, r.length = 1 ∧ r.all isData1 = true := by
  intro r hr
  obtain ⟨x, _, rfl⟩ := List.mem_map.1 hr
  exact ⟨rfl, rfl⟩
def rowC (l : List Int) : List DV := (l.map intD).flatten
theorem rowC_eq (l : List Int) : rowC l = (l.map intD).flatten := rfl
theorem rowC_map (l : List Int) : rowC l = l.map fun x => .v (.int .i64 x) := by
  induction l with
  | nil => rfl
  | cons a l ih => simp only [rowC, List.map_cons, List.flatten_cons] at *; rw [ih]; rfl
theorem rowC_len (l : List Int) : (rowC l).length = l.length := by rw [rowC_map, List.length_map]
theorem rowC_all (l : List Int) : (rowC l).all noId1 = true := by
  rw [rowC_map, List.all_map, List.all_eq_true]; intro x _; rfl
theorem rowC_set (l : List Int) (i : Nat) (x : Int) : setMany (rowC l) i [.v (.int .i64 x)] = rowC (l.set i x) := by
  show (rowC l).set i _ = _
  rw [rowC_map, rowC_map, List.map_set]
theorem dcell_row {g : Bool} {l : List Int} {off : Nat} {K : DV → Prop} (h : g = true → off < l.length) (hK : K (.v (.int .i64 (l.getD off 0)))) : dcell g (rowC l) off K :=
  dcell_at _ (fun hg => by
    have hl := h hg
    rw [rowC_map, List.getElem?_map, List.getElem?_eq_getElem hl, List.getD_eq_getElem?_getD, List.getElem?_eq_getElem hl]; rfl) hK
def kindB (s : Stp) : Bool := bif decide (0 < s.kind) then decide (s.kind < 16) else false
def addK (x : Int) (D : List Int) (s : Stp) : List Int := if kindB s = true then D.set s.kind.toNat (IntKind.i64.wrap (D.getD s.kind.toNat 0 + x)) else D
def countF (x : Int) (l : List Stp) (D : List Int) : List Int := l.foldl (addK x) D
theorem addK_len (x : Int) (D : List Int) (s : Stp) : (addK x D s).length = D.length := by unfold addK; split <;> simp
theorem countF_len (x : Int) (l : List Stp) : ∀ D : List Int, (countF x l D).length = D.length := by
  induction l with
  | nil => intro D; rfl
  | cons s l ih => intro D; show (countF x l (addK x D s)).length = _; rw [ih, addK_len]
theorem countF_succ {x : Int} {l : List Stp} {D : List Int} {k : Nat} (hk : k < l.length) : countF x (l.take (k + 1)) D = addK x (countF x (l.take k) D) (l.getD k stp0) := by
  rw [take_succ (d := stp0) hk, countF, List.foldl_append]; rfl
def countT (a b : List Stp) : List Int := countF (-1) a (countF 1 b (List.replicate 16 0))
def cO (D : List Int) : List (Nat × DObj) := [(0, ⟨3, 1, rowC D⟩), (1, ⟨26, 1, [.arr 0 16]⟩)]
def c28 (l : List Stp) (x : Int) (k : Nat × List Int) : St := ⟨2, tmOf [(1, int1 x), (2, .ref 1 0), (7, stps l), (8, int1 l.length), (9, int1 k.1)], .of [(0, ⟨3, 1, rowC k.2⟩), (1, ⟨26, 1, [.arr 0 16]⟩)] 2⟩
theorem add_no {x : Int} {l : List Stp} {D : List Int} {k : Nat} (hk : k < l.length) (h : kindB (l.getD ((k : Nat) : Int).toNat stp0) = false) : countF x (l.take k) D = countF x (l.take (k + 1)) D := by
  rw [Int.toNat_natCast] at h
  rw [countF_succ hk, addK, if_neg (by rw [h]; decide)]
theorem add_yes {x : Int} {l : List Stp} {D D' : List Int} {k : Nat} (hk : k < l.length) (hD : D' = countF x (l.take k) D) (h : kindB (l.getD ((k : Nat) : Int).toNat stp0) = true) : D'.set (l.getD ((k : Nat) : Int).toNat stp0).kind.toNat (IntKind.i64.wrap (D'.getD (l.getD ((k : Nat) : Int).toNat stp0).kind.toNat 0 + x)) = countF x (l.take (k + 1)) D := by
  rw [countF_succ hk, addK, ← hD]
  rw [Int.toNat_natCast] at h ⊢
  rw [if_pos h]
theorem kind_in {s : Stp} (h : kindB s = true) : 0 ≤ s.kind ∧ s.kind < 16 := by
  unfold kindB at h
  simp at h; omega
theorem count0 (x : Int) (l : List Stp) (D : List Int) : D = countF x (l.take 0) D := by simp [countF]
theorem rowC_set1 {D : List Int} {m : Nat} {v : Int} : setMany (rowC D) (m * 1) [.v (.int .i64 v)] = rowC (D.set m v) := by rw [Nat.mul_one, rowC_set]
theorem add_row {x : Int} {l : List Stp} {D : List Int} {k : Nat × List Int} {v : Int} (hk : k.1 < l.length) (hD : k.2 = countF x (l.take k.1) D) (h : kindB (l.getD ((k.1 : Nat) : Int).toNat stp0) = true) (hv : v = IntKind.i64.wrap (k.2.getD (l.getD ((k.1 : Nat) : Int).toNat stp0).kind.toNat 0 + x)) : setMany (rowC k.2) ((l.getD ((k.1 : Nat) : Int).toNat stp0).kind.toNat * 1) [.v (.int .i64 v)] = rowC (countF x (l.take (k.1 + 1)) D) := by
  rw [rowC_set1, hv, add_yes hk hD h]
theorem lt_mapS' {l : List Stp} {k : Nat} (h : decide (((k : Nat) : Int) < ((l.length : Nat) : Int)) = true) : k < l.length := by simpa using h
theorem sc_arg {P : Program} {f : FuncId} {args : List DV} {s : Sto} {K : DV → Sto → Prop} (i : Nat) (d : DV) (_ : args[i]? = some d) (k : SCall P f args s K) : SCall P f args s K := k
attribute [local irreducible] rowC countF
set_option maxRecDepth 20000 in
set_option maxHeartbeats 1000000 in
theorem add28_S (l : List Stp) (x : Int) (D : List Int) (hl : l.length ≤ 9223372036854775807) (hD : D.length = 16) : SCall Tryd.prog 28 [stps l, int1 x, .ref 1 0] (.of (cO D) 2) fun r s => r = .tup [] ∧ s = .of (cO (countF x l D)) 2 := by
  refine SCall.retell (SCall.run Tryd.func28 rfl (Nat.le_of_ble_eq_true rfl) (by kernel_rfl) ?_)
  repeat' (first | with_reducible rfl | ((conv => whnf); first | refine And.intro ?_ ?_ | (intro h; first | with_reducible exact tf_no h | with_reducible exact ft_no h | exact Bool.noConfusion h | with_reducible exact h | (have ht : true = true := h; clear ht h) | skip) | ((with_reducible refine DWl.mark ?_); repeat' (first | refine DWl.cons ?_ ?_ | exact DWl.nil | exact DW.same _ rfl | exact DW.ref _ _ _ rfl | exact DW.arr _ _ _ rfl | exact DW.sub _ _ _ _ rfl | exact DW.nilLst _ | refine DW.aggl ?_ | refine DW.tupl ?_ | refine DW.clol ?_ ?_ | refine DW.int ?_ | refine DW.bool ?_ | refine DW.str ?_)) | ((with_reducible refine Tri.mark ?_); first | refine Tri.loop (c28 l x) (fun k => k.1 ≤ l.length ∧ k.2 = countF x (l.take k.1) D) (fun k => l.length - k.1) ((0, D)) (by kernel_rfl) (Weak.list [] [] ?_ ?_ ?_) ?_ ?_) | ((with_reducible refine ECall.mark ?_); first | refine ECall.only ?_ (fun h => nomatch h) | refine ECall.only ?_ ?_) | ((with_reducible refine Drawn.mark ?_); first | refine Drawn.quiet (by kernel_rfl) ?_) | refine dloadE_map (stp0) ?_ ?_ | refine dcell_row ?_ ?_ | refine dcell_ok rfl ?_ | refine AppC.new ?_))
  all_goals first | (with_reducible refine enters_mark ?_; kernel_rfl) | (with_reducible refine boolT_mark ?_; kernel_rfl) | rfl | trivial | assumption | exact Nat.le_of_ble_eq_true rfl | (show entersB _ _ = true; kernel_rfl) | exact DW.same _ rfl | exact DW.ref _ _ _ rfl | exact DW.arr _ _ _ rfl | refine DW.int ?_ | refine dvb ?_ | refine dvi ?_ | exact OW.cells rfl rfl (DWl.same rfl) | exact Nat.zero_le _ | omega | skip
  all_goals repeat' (first | refine OW.cells rfl rfl ?_ | exact DW.nilArr _ rfl | refine DWl.cons ?_ ?_ | exact DWl.nil | exact DW.same _ rfl | exact DW.ref _ _ _ rfl | exact DW.arr _ _ _ rfl | exact DW.sub _ _ _ _ rfl | exact DW.nilLst _ | refine DW.aggl ?_ | refine DW.tupl ?_ | refine DW.clol ?_ ?_)
  all_goals try ((conv => whnf); with_reducible first | refine Round.mark ?_ | refine Tells.mark ?_ | refine Retold.mark ?_)
  all_goals try first | (show (_ : Bool) = _; simp_all; done) | (show (_ : Int) < _; simp at *; omega) | (show (_ : Int) ≤ _; simp at *; omega) | (show (_ : Nat) < _; simp at *; omega) | (show (_ : Nat) ≤ _; simp at *; omega)
  · simp
  · exact DWl.same (rowC_all _)
  · exact count0 _ _ _
  · have := kind_in (s := l.getD _ stp0) h
    rename_i k hk e1
    have h2 : k.2.length = 16 := by rw [hk.2, countF_len, hD]
    omega
  · have := kind_in (s := l.getD _ stp0) h
    rename_i k hk e1
    have h2 : k.2.length = 16 := by rw [hk.2, countF_len, hD]
    show _ ≤ (rowC k.2).length
    rw [rowC_len]; omega
  · rename_i k hk e1
    have hlt := lt_int e1
    refine Round.go (fun _ => (k.1 + 1, countF x (l.take (k.1 + 1)) D)) ⟨hlt, rfl⟩ (by show l.length - (k.1 + 1) < l.length - k.1; omega) (Weak.list [] [] (by kernel_rfl) ?_ ?_)
    · repeat' (first | exact wsucc hlt (by omega) | exact OW.cells rfl rfl (DWl.eq (add_row hlt hk.2 h (by rw [Nat.mul_one])) (rowC_all _)) | exact DW.same _ rfl | exact DW.ref _ _ _ rfl | exact DW.arr _ _ _ rfl | exact OW.cells rfl rfl (DWl.same rfl) | refine OW.cells rfl rfl ?_ | refine DWl.cons ?_ ?_ | exact DWl.nil | exact DW.nilArr _ rfl | exact DW.nilLst _ | refine DW.clol ?_ ?_ | refine DW.aggl ?_ | refine DW.tupl ?_ | refine DW.int ?_ | refine DW.bool ?_ | refine DW.str ?_ | refine DW.arrE rfl ?_ | ((conv => whnf); first | refine And.intro ?_ ?_ | trivial))
    · repeat' (first | exact wsucc hlt (by omega) | exact OW.cells rfl rfl (DWl.eq (add_row hlt hk.2 h (by rw [Nat.mul_one])) (rowC_all _)) | exact DW.same _ rfl | exact DW.ref _ _ _ rfl | exact DW.arr _ _ _ rfl | exact OW.cells rfl rfl (DWl.same rfl) | refine OW.cells rfl rfl ?_ | refine DWl.cons ?_ ?_ | exact DWl.nil | exact DW.nilArr _ rfl | exact DW.nilLst _ | refine DW.clol ?_ ?_ | refine DW.aggl ?_ | refine DW.tupl ?_ | refine DW.int ?_ | refine DW.bool ?_ | refine DW.str ?_ | refine DW.arrE rfl ?_ | ((conv => whnf); first | refine And.intro ?_ ?_ | trivial))
  · rename_i k hk e1
    have hlt := lt_int e1
    refine Round.go (fun _ => (k.1 + 1, k.2)) ⟨hlt, hk.2.trans (add_no hlt h)⟩ (by show l.length - (k.1 + 1) < l.length - k.1; omega) (Weak.list [] [] (by kernel_rfl) ?_ ?_)
    · repeat' (first | exact wsucc hlt (by omega) | exact DWl.same (rowC_all _) | exact DW.same _ rfl | exact DW.ref _ _ _ rfl | exact DW.arr _ _ _ rfl | exact OW.cells rfl rfl (DWl.same rfl) | refine OW.cells rfl rfl ?_ | refine DWl.cons ?_ ?_ | exact DWl.nil | exact DW.nilArr _ rfl | exact DW.nilLst _ | refine DW.clol ?_ ?_ | refine DW.aggl ?_ | refine DW.tupl ?_ | refine DW.int ?_ | refine DW.bool ?_ | refine DW.str ?_ | refine DW.arrE rfl ?_ | ((conv => whnf); first | refine And.intro ?_ ?_ | trivial))
    · repeat' (first | exact wsucc hlt (by omega) | exact DWl.same (rowC_all _) | exact DW.same _ rfl | exact DW.ref _ _ _ rfl | exact DW.arr _ _ _ rfl | exact OW.cells rfl rfl (DWl.same rfl) | refine OW.cells rfl rfl ?_ | refine DWl.cons ?_ ?_ | exact DWl.nil | exact DW.nilArr _ rfl | exact DW.nilLst _ | refine DW.clol ?_ ?_ | refine DW.aggl ?_ | refine DW.tupl ?_ | refine DW.int ?_ | refine DW.bool ?_ | refine DW.str ?_ | refine DW.arrE rfl ?_ | ((conv => whnf); first | refine And.intro ?_ ?_ | trivial))
  · rename_i k hk
    have hge := ge_int h
    have e4 : k.2 = countF x l D := by rw [hk.2, List.take_of_length_le hge]
    refine Retold.list [] [] (.tup []) (cO k.2) 2 (by kernel_rfl) (DW.tupl DWl.nil) ?_ ⟨rfl, by rw [e4]⟩
    repeat' (first | exact OW.cells rfl rfl (DWl.same (rowC_all _)) | exact OW.cells rfl rfl (DWl.cons (DW.arr _ _ _ rfl) DWl.nil) | ((conv => whnf); first | refine And.intro ?_ ?_ | trivial))
theorem countT_len (a b : List Stp) : (countT a b).length = 16 := by rw [countT, countF_len, countF_len]; rfl
theorem count_zero : (List.replicate (Int.toNat 16) [DV.v (.int .i64 0)]).flatten = rowC (List.replicate 16 0) := by
  rw [rowC_map]; rfl
set_option maxRecDepth 20000 in
set_option maxHeartbeats 1000000 in
theorem count11_D (a b : List Stp) (ha : a.length ≤ 9223372036854775807) (hb : b.length ≤ 9223372036854775807) : DPure Tryd.prog 11 [stps a, stps b] (ints (countT a b)) := by
  refine DFun.data (DFun.body Tryd.func11 rfl (by kernel_rfl) ?_)
  repeat' (first | with_reducible rfl | ((conv => whnf); first | refine And.intro ?_ ?_ | (intro h; first | with_reducible exact tf_no h | with_reducible exact ft_no h | exact Bool.noConfusion h | with_reducible exact h | (have ht : true = true := h; clear ht h) | skip) | ((with_reducible refine DWl.mark ?_); repeat' (first | refine DWl.cons ?_ ?_ | exact DWl.nil | exact DW.same _ rfl | exact DW.ref _ _ _ rfl | exact DW.arr _ _ _ rfl | exact DW.sub _ _ _ _ rfl | exact DW.nilLst _ | refine DW.aggl ?_ | refine DW.tupl ?_ | refine DW.clol ?_ ?_ | refine DW.int ?_ | refine DW.bool ?_ | refine DW.str ?_)) | ((with_reducible refine SCall.mark ?_); first | (refine sc_arg 1 (int1 1) rfl ?_; refine SCall.at [0, 1] (fun _ => cO (countF 1 b (List.replicate 16 0))) (fun _ => .tup []) 0 (add28_S b 1 (List.replicate 16 0) hb rfl) (by kernel_rfl) ?_ ?_ ?_ ?_ ?_) | refine SCall.at [0, 1] (fun _ => cO (countT a b)) (fun _ => .tup []) 0 (add28_S a (-1) (countF 1 b (List.replicate 16 0)) ha (by rw [countF_len]; rfl)) (by kernel_rfl) ?_ ?_ ?_ ?_ ?_) | ((with_reducible refine ECall.mark ?_); first | refine ECall.only ?_ (fun h => nomatch h) | refine ECall.only ?_ ?_) | ((with_reducible refine Drawn.mark ?_); first | refine Drawn.quiet (by kernel_rfl) ?_) | refine dcell_ok rfl ?_ | refine AppC.new ?_))
  all_goals first | (with_reducible refine enters_mark ?_; kernel_rfl) | (with_reducible refine boolT_mark ?_; kernel_rfl) | rfl | trivial | assumption | exact Nat.le_of_ble_eq_true rfl | (show entersB _ _ = true; kernel_rfl) | exact DW.same _ rfl | exact DW.ref _ _ _ rfl | exact DW.arr _ _ _ rfl | refine DW.int ?_ | refine dvb ?_ | refine dvi ?_ | exact OW.cells rfl rfl (DWl.same rfl) | exact Nat.zero_le _ | omega | skip
  all_goals repeat' (first | refine OW.cells rfl rfl ?_ | exact DW.nilArr _ rfl | refine DWl.cons ?_ ?_ | exact DWl.nil | exact DW.same _ rfl | exact DW.ref _ _ _ rfl | exact DW.arr _ _ _ rfl | exact DW.sub _ _ _ _ rfl | exact DW.nilLst _ | refine DW.aggl ?_ | refine DW.tupl ?_ | refine DW.clol ?_ ?_)
  all_goals try ((conv => whnf); with_reducible first | refine Round.mark ?_ | refine Tells.mark ?_ | refine Retold.mark ?_)
  all_goals try first | (show (_ : Bool) = _; simp_all; done) | (show (_ : Int) < _; simp at *; omega) | (show (_ : Int) ≤ _; simp at *; omega) | (show (_ : Nat) < _; simp at *; omega) | (show (_ : Nat) ≤ _; simp at *; omega)
  all_goals try first | exact DWl.same (rowC_all _) | exact DWl.eq count_zero (rowC_all _)
  conv => whnf
  exact Tells.mk (DW.pubM (l := countT a b) rfl (countT_len a b) rfl rfl (intsRow _) (rowC_eq _))
def c12A (a b : List Stp) (k : Nat × List Int) : St := ⟨0, tmOf [(0, stps a), (1, stps b), (5, .arr 0 16), (6, int1 k.1)], .of [(0, ⟨3, 1, rowC k.2⟩)] 1⟩
def c12B (a : List Stp) (k : Nat × List Int) : St := ⟨0, tmOf [(0, stps a), (5, .arr 0 16), (8, int1 k.1)], .of [(0, ⟨3, 1, rowC k.2⟩)] 1⟩
theorem kindD {s : Stp} {b : Bool} (h : (bif decide (1 ≤ s.kind) then decide (s.kind < 16) else false) = b) : kindB s = b := by
  rw [← h]; unfold kindB; rfl
theorem subW (v : Int) : IntKind.i64.wrap (v - 1) = IntKind.i64.wrap (v + -1) := by rw [Int.sub_eq_add_neg]
set_option maxRecDepth 20000 in
set_option maxHeartbeats 1000000 in
theorem count12_D (a b : List Stp) (ha : a.length ≤ 9223372036854775807) (hb : b.length ≤ 9223372036854775807) : DPure Tryd.prog 12 [stps a, stps b] (ints (countT a b)) := by
  refine DFun.data (DFun.body Tryd.func12 rfl (by kernel_rfl) ?_)
  repeat' (first | with_reducible rfl | ((conv => whnf); first | refine And.intro ?_ ?_ | (intro h; first | with_reducible exact tf_no h | with_reducible exact ft_no h | exact Bool.noConfusion h | with_reducible exact h | (have ht : true = true := h; clear ht h) | skip) | ((with_reducible refine DWl.mark ?_); repeat' (first | refine DWl.cons ?_ ?_ | exact DWl.nil | exact DW.same _ rfl | exact DW.ref _ _ _ rfl | exact DW.arr _ _ _ rfl | exact DW.sub _ _ _ _ rfl | exact DW.nilLst _ | refine DW.aggl ?_ | refine DW.tupl ?_ | refine DW.clol ?_ ?_ | refine DW.int ?_ | refine DW.bool ?_ | refine DW.str ?_)) | ((with_reducible refine Tri.mark ?_); first | (refine Tri.at 6 (int1 0) (by rfl) ?_; refine Tri.loop (c12A a b) (fun k => k.1 ≤ b.length ∧ k.2 = countF 1 (b.take k.1) (List.replicate 16 0)) (fun k => b.length - k.1) (0, List.replicate 16 0) (by kernel_rfl) (Weak.list [(0, some 0)] [] (by kernel_rfl) ?_ ?_) ?_ ?_) | (refine Tri.at 8 (int1 0) (by rfl) ?_; refine Tri.loop (c12B a) (fun k => k.1 ≤ a.length ∧ k.2 = countF (-1) (a.take k.1) (countF 1 b (List.replicate 16 0))) (fun k => a.length - k.1) (0, countF 1 b (List.replicate 16 0)) (by kernel_rfl) (Weak.list [(0, some 0)] [] (by kernel_rfl) ?_ ?_) ?_ ?_)) | ((with_reducible refine ECall.mark ?_); first | refine ECall.only ?_ (fun h => nomatch h) | refine ECall.only ?_ ?_) | ((with_reducible refine Drawn.mark ?_); first | refine Drawn.quiet (by kernel_rfl) ?_) | refine dloadE_map (stp0) ?_ ?_ | refine dcell_row ?_ ?_ | refine dcell_ok rfl ?_ | refine AppC.new ?_))
  all_goals first | (with_reducible refine enters_mark ?_; kernel_rfl) | (with_reducible refine boolT_mark ?_; kernel_rfl) | rfl | trivial | assumption | exact Nat.le_of_ble_eq_true rfl | (show entersB _ _ = true; kernel_rfl) | exact DW.same _ rfl | exact DW.ref _ _ _ rfl | exact DW.arr _ _ _ rfl | refine DW.int ?_ | refine dvb ?_ | refine dvi ?_ | exact OW.cells rfl rfl (DWl.same rfl) | exact Nat.zero_le _ | omega | skip
  all_goals repeat' (first | refine OW.cells rfl rfl ?_ | exact DW.nilArr _ rfl | refine DWl.cons ?_ ?_ | exact DWl.nil | exact DW.same _ rfl | exact DW.ref _ _ _ rfl | exact DW.arr _ _ _ rfl | exact DW.sub _ _ _ _ rfl | exact DW.nilLst _ | refine DW.aggl ?_ | refine DW.tupl ?_ | refine DW.clol ?_ ?_)
  all_goals try ((conv => whnf); with_reducible first | refine Round.mark ?_ | refine Tells.mark ?_ | refine Retold.mark ?_)
  all_goals try first | (show (_ : Bool) = _; simp_all; done) | (show (_ : Int) < _; simp at *; omega) | (show (_ : Int) ≤ _; simp at *; omega) | (show (_ : Nat) < _; simp at *; omega) | (show (_ : Nat) ≤ _; simp at *; omega)
  · exact DWl.eq count_zero (rowC_all _)
  · exact count0 _ _ _
  · have := kind_in (s := b.getD _ stp0) (kindD h)
    rename_i k hk e1
    have h2 : k.2.length = 16 := by rw [hk.2, countF_len, List.length_replicate]
    omega
  · have := kind_in (s := b.getD _ stp0) (kindD h)
    rename_i k hk e1
    have h2 : k.2.length = 16 := by rw [hk.2, countF_len, List.length_replicate]
    show _ ≤ (rowC k.2).length
    rw [rowC_len]; omega
  · rename_i k hk e1
    have hlt := lt_mapS e1
    refine Round.go (fun _ => (k.1 + 1, countF (1) (b.take (k.1 + 1)) (List.replicate 16 0))) ⟨hlt, rfl⟩ (by show b.length - (k.1 + 1) < b.length - k.1; omega) (Weak.list [(0, some 0)] [] (by kernel_rfl) ?_ ?_)
    · repeat' (first | exact wsucc hlt (by omega) | exact OW.cells rfl rfl (DWl.eq (add_row hlt hk.2 (kindD h) (by rw [Nat.mul_one])) (rowC_all _)) | exact DW.same _ rfl | exact DW.ref _ _ _ rfl | exact DW.arr _ _ _ rfl | exact OW.cells rfl rfl (DWl.same rfl) | refine OW.cells rfl rfl ?_ | refine DWl.cons ?_ ?_ | exact DWl.nil | exact DW.nilArr _ rfl | exact DW.nilLst _ | refine DW.clol ?_ ?_ | refine DW.aggl ?_ | refine DW.tupl ?_ | refine DW.int ?_ | refine DW.bool ?_ | refine DW.str ?_ | refine DW.arrE rfl ?_ | ((conv => whnf); first | refine And.intro ?_ ?_ | trivial))
    · repeat' (first | exact wsucc hlt (by omega) | exact OW.cells rfl rfl (DWl.eq (add_row hlt hk.2 (kindD h) (by rw [Nat.mul_one])) (rowC_all _)) | exact DW.same _ rfl | exact DW.ref _ _ _ rfl | exact DW.arr _ _ _ rfl | exact OW.cells rfl rfl (DWl.same rfl) | refine OW.cells rfl rfl ?_ | refine DWl.cons ?_ ?_ | exact DWl.nil | exact DW.nilArr _ rfl | exact DW.nilLst _ | refine DW.clol ?_ ?_ | refine DW.aggl ?_ | refine DW.tupl ?_ | refine DW.int ?_ | refine DW.bool ?_ | refine DW.str ?_ | refine DW.arrE rfl ?_ | ((conv => whnf); first | refine And.intro ?_ ?_ | trivial))
  · rename_i k hk e1
    have hlt := lt_mapS e1
    refine Round.go (fun _ => (k.1 + 1, k.2)) ⟨hlt, hk.2.trans (add_no hlt (kindD h))⟩ (by show b.length - (k.1 + 1) < b.length - k.1; omega) (Weak.list [(0, some 0)] [] (by kernel_rfl) ?_ ?_)
    · repeat' (first | exact wsucc hlt (by omega) | exact OW.cells rfl rfl (DWl.same (rowC_all _)) | exact DW.same _ rfl | exact DW.ref _ _ _ rfl | exact DW.arr _ _ _ rfl | exact OW.cells rfl rfl (DWl.same rfl) | refine OW.cells rfl rfl ?_ | refine DWl.cons ?_ ?_ | exact DWl.nil | exact DW.nilArr _ rfl | exact DW.nilLst _ | refine DW.clol ?_ ?_ | refine DW.aggl ?_ | refine DW.tupl ?_ | refine DW.int ?_ | refine DW.bool ?_ | refine DW.str ?_ | refine DW.arrE rfl ?_ | ((conv => whnf); first | refine And.intro ?_ ?_ | trivial))
    · repeat' (first | exact wsucc hlt (by omega) | exact OW.cells rfl rfl (DWl.same (rowC_all _)) | exact DW.same _ rfl | exact DW.ref _ _ _ rfl | exact DW.arr _ _ _ rfl | exact OW.cells rfl rfl (DWl.same rfl) | refine OW.cells rfl rfl ?_ | refine DWl.cons ?_ ?_ | exact DWl.nil | exact DW.nilArr _ rfl | exact DW.nilLst _ | refine DW.clol ?_ ?_ | refine DW.aggl ?_ | refine DW.tupl ?_ | refine DW.int ?_ | refine DW.bool ?_ | refine DW.str ?_ | refine DW.arrE rfl ?_ | ((conv => whnf); first | refine And.intro ?_ ?_ | trivial))
  · rename_i k hk
    have hge := ge_mapS h
    have e4 : k.2 = countF 1 b (List.replicate 16 0) := by rw [hk.2, List.take_of_length_le hge]
    exact DWl.eq (congrArg rowC e4) (rowC_all _)
  · exact count0 _ _ _
  · have := kind_in (s := a.getD _ stp0) (kindD h)
    rename_i k hk e1
    have h2 : k.2.length = 16 := by rw [hk.2, countF_len, countF_len, List.length_replicate]
    omega
  · have := kind_in (s := a.getD _ stp0) (kindD h)
    rename_i k hk e1
    have h2 : k.2.length = 16 := by rw [hk.2, countF_len, countF_len, List.length_replicate]
    show _ ≤ (rowC k.2).length
    rw [rowC_len]; omega
  · rename_i k hk e1
    have hlt := lt_mapS e1
    refine Round.go (fun _ => (k.1 + 1, countF (-1) (a.take (k.1 + 1)) (countF 1 b (List.replicate 16 0)))) ⟨hlt, rfl⟩ (by show a.length - (k.1 + 1) < a.length - k.1; omega) (Weak.list [(0, some 0)] [] (by kernel_rfl) ?_ ?_)
    · repeat' (first | exact wsucc hlt (by omega) | exact OW.cells rfl rfl (DWl.eq (add_row hlt hk.2 (kindD h) (by rw [Nat.mul_one, subW])) (rowC_all _)) | exact DW.same _ rfl | exact DW.ref _ _ _ rfl | exact DW.arr _ _ _ rfl | exact OW.cells rfl rfl (DWl.same rfl) | refine OW.cells rfl rfl ?_ | refine DWl.cons ?_ ?_ | exact DWl.nil | exact DW.nilArr _ rfl | exact DW.nilLst _ | refine DW.clol ?_ ?_ | refine DW.aggl ?_ | refine DW.tupl ?_ | refine DW.int ?_ | refine DW.bool ?_ | refine DW.str ?_ | refine DW.arrE rfl ?_ | ((conv => whnf); first | refine And.intro ?_ ?_ | trivial))
    · repeat' (first | exact wsucc hlt (by omega) | exact OW.cells rfl rfl (DWl.eq (add_row hlt hk.2 (kindD h) (by rw [Nat.mul_one, subW])) (rowC_all _)) | exact DW.same _ rfl | exact DW.ref _ _ _ rfl | exact DW.arr _ _ _ rfl | exact OW.cells rfl rfl (DWl.same rfl) | refine OW.cells rfl rfl ?_ | refine DWl.cons ?_ ?_ | exact DWl.nil | exact DW.nilArr _ rfl | exact DW.nilLst _ | refine DW.clol ?_ ?_ | refine DW.aggl ?_ | refine DW.tupl ?_ | refine DW.int ?_ | refine DW.bool ?_ | refine DW.str ?_ | refine DW.arrE rfl ?_ | ((conv => whnf); first | refine And.intro ?_ ?_ | trivial))
  · rename_i k hk e1
    have hlt := lt_mapS e1
    refine Round.go (fun _ => (k.1 + 1, k.2)) ⟨hlt, hk.2.trans (add_no hlt (kindD h))⟩ (by show a.length - (k.1 + 1) < a.length - k.1; omega) (Weak.list [(0, some 0)] [] (by kernel_rfl) ?_ ?_)
    · repeat' (first | exact wsucc hlt (by omega) | exact OW.cells rfl rfl (DWl.same (rowC_all _)) | exact DW.same _ rfl | exact DW.ref _ _ _ rfl | exact DW.arr _ _ _ rfl | exact OW.cells rfl rfl (DWl.same rfl) | refine OW.cells rfl rfl ?_ | refine DWl.cons ?_ ?_ | exact DWl.nil | exact DW.nilArr _ rfl | exact DW.nilLst _ | refine DW.clol ?_ ?_ | refine DW.aggl ?_ | refine DW.tupl ?_ | refine DW.int ?_ | refine DW.bool ?_ | refine DW.str ?_ | refine DW.arrE rfl ?_ | ((conv => whnf); first | refine And.intro ?_ ?_ | trivial))
    · repeat' (first | exact wsucc hlt (by omega) | exact OW.cells rfl rfl (DWl.same (rowC_all _)) | exact DW.same _ rfl | exact DW.ref _ _ _ rfl | exact DW.arr _ _ _ rfl | exact OW.cells rfl rfl (DWl.same rfl) | refine OW.cells rfl rfl ?_ | refine DWl.cons ?_ ?_ | exact DWl.nil | exact DW.nilArr _ rfl | exact DW.nilLst _ | refine DW.clol ?_ ?_ | refine DW.aggl ?_ | refine DW.tupl ?_ | refine DW.int ?_ | refine DW.bool ?_ | refine DW.str ?_ | refine DW.arrE rfl ?_ | ((conv => whnf); first | refine And.intro ?_ ?_ | trivial))
  · rename_i k hk
    have hge := ge_mapS h
    have e4 : k.2 = countT a b := by rw [hk.2, List.take_of_length_le hge]; rfl
    have h16 : k.2.length = 16 := by rw [e4, countT_len]
    conv => whnf
    exact Tells.of (r1 := ints k.2) (by rw [e4]) (Tells.mk (DW.pubM (l := k.2) rfl h16 rfl rfl (intsRow _) (rowC_eq _)))
end Go.Proofs.YtgaghkchdiepoaaDoor

/- The numbers of a seed. -/
namespace Go.Proofs.YtgaghkchdiepoaaDoor
open Go.RowKit Go.Dl
attribute [local irreducible] Tri SCall TSem ECall Drawn DFun QSem PSem PCall GCall MCall Round Weak dloadE OW DWl Tells IntKind.wrap Retold ESem
def stepsU (x : Int) : Nat → Int
  | 0 => x
  | j + 1 => stepU (stepsU x j)
def randK (x k : Int) : Int := if k < 1 ∨ 100000 < k then 0 else valU (stepsU x k.toNat)
theorem randK_no {x k : Int} (h : (bif decide (k < 1) then true else decide (100000 < k)) = true) : 0 = randK x k := by
  unfold randK
  by_cases h1 : k < 1
  · rw [if_pos (.inl h1)]
  · rw [if_pos (.inr (by simpa [h1] using h))]
theorem randK_in {k : Int} (h : (bif decide (k < 1) then true else decide (100000 < k)) = false) : 1 ≤ k ∧ k ≤ 100000 := by
  by_cases h1 : k < 1
  · simp [h1] at h
  · simp [h1] at h; omega
theorem randK_end2 {x : Int} {n j : Nat} (hn : n ≤ 100000) (hj : j + 1 = n) : (IntKind.u64.wrap (IntKind.u64.wrap (stepsU x j * 6364136223846793005) + 1442695040888963407)).fdiv (2 ^ min (Int.toNat 33) IntKind.u64.bits) = randK x n := by
  rw [randK, if_neg (by omega), Int.toNat_natCast, ← hj]; rfl
theorem stepsU_next (x : Int) (j : Nat) : IntKind.u64.wrap (IntKind.u64.wrap (stepsU x j * 6364136223846793005) + 1442695040888963407) = stepsU x (j + 1) := rfl
def st60 (x : Int) (k : Nat) (lb j : Nat) : St := ⟨⟨4, [.normal]⟩, tmOf [(0, .clo (.yield lb) [] []), (3, u64 (stepsU x j))], .of [(0, ⟨3, 1, [int1 k]⟩), (1, ⟨30, 1, [u64 0]⟩), (2, ⟨3, 1, [int1 j]⟩), (3, ⟨30, 1, [u64 x]⟩)] 4⟩
set_option maxRecDepth 100000 in
set_option maxHeartbeats 1000000 in
theorem rand60_D (x k : Int) : DPure Tryd.prog 60 [u64 x, int1 k] (u64 (randK x k)) := by
  refine DFun.data (DFun.body Tryd.func60 rfl (by kernel_rfl) ?_)
  repeat' (first | with_reducible rfl | ((conv => whnf); first | refine And.intro ?_ ?_ | (intro h; first | with_reducible exact tf_no h | with_reducible exact ft_no h | exact Bool.noConfusion h | with_reducible exact h | (have ht : true = true := h; clear ht h) | skip) | ((with_reducible refine DWl.mark ?_); repeat' (first | refine DWl.cons ?_ ?_ | exact DWl.nil | exact DW.same _ rfl | exact DW.ref _ _ _ rfl | exact DW.arr _ _ _ rfl | exact DW.sub _ _ _ _ rfl | exact DW.nilLst _ | refine DW.aggl ?_ | refine DW.tupl ?_ | refine DW.clol ?_ ?_ | refine DW.int ?_ | refine DW.bool ?_ | refine DW.str ?_)) | ((with_reducible refine SCall.mark ?_); first | refine SCall.run Tryd.func66 rfl (Nat.le_of_ble_eq_true rfl) (by kernel_rfl) ?_) | ((with_reducible refine ECall.mark ?_); first | refine ECall.only ?_ (fun h => nomatch h) | refine ECall.only ?_ ?_) | ((with_reducible refine Drawn.mark ?_); first | refine Drawn.quiet (by kernel_rfl) ?_) | refine dcell_ok rfl ?_ | refine AppC.new ?_))
  all_goals first | (with_reducible refine enters_mark ?_; kernel_rfl) | (with_reducible refine boolT_mark ?_; kernel_rfl) | rfl | trivial | assumption | exact Nat.le_of_ble_eq_true rfl | (show entersB _ _ = true; kernel_rfl) | exact DW.same _ rfl | exact DW.ref _ _ _ rfl | exact DW.arr _ _ _ rfl | refine DW.int ?_ | refine dvb ?_ | refine dvi ?_ | exact OW.cells rfl rfl (DWl.same rfl) | exact Nat.zero_le _ | omega | skip
  all_goals repeat' (first | refine OW.cells rfl rfl ?_ | exact DW.nilArr _ rfl | refine DWl.cons ?_ ?_ | exact DWl.nil | exact DW.same _ rfl | exact DW.ref _ _ _ rfl | exact DW.arr _ _ _ rfl | exact DW.sub _ _ _ _ rfl | exact DW.nilLst _ | refine DW.aggl ?_ | refine DW.tupl ?_ | refine DW.clol ?_ ?_)
  all_goals try ((conv => whnf); with_reducible first | refine Round.mark ?_ | refine Tells.mark ?_ | refine Retold.mark ?_)
  all_goals try first | (show (_ : Bool) = _; simp_all; done) | (show (_ : Int) < _; simp at *; omega) | (show (_ : Int) ≤ _; simp at *; omega) | (show (_ : Nat) < _; simp at *; omega) | (show (_ : Nat) ≤ _; simp at *; omega)
  · conv => whnf
    exact Tells.mk (DW.int (randK_no h))
  have hk := randK_in h
  obtain ⟨n, rfl⟩ := Int.eq_ofNat_of_zero_le (show 0 ≤ k by omega)
  conv => whnf
  refine Tri.range rfl (by kernel_rfl) rfl rfl (by rfl) (by kernel_rfl) fun lb => ?_
  repeat' (first | with_reducible rfl | ((conv => whnf); first | refine And.intro ?_ ?_ | (intro h; first | with_reducible exact tf_no h | with_reducible exact ft_no h | exact Bool.noConfusion h | with_reducible exact h | (have ht : true = true := h; clear ht h) | skip) | ((with_reducible refine DWl.mark ?_); repeat' (first | refine DWl.cons ?_ ?_ | exact DWl.nil | exact DW.same _ rfl | exact DW.ref _ _ _ rfl | exact DW.arr _ _ _ rfl | exact DW.sub _ _ _ _ rfl | exact DW.nilLst _ | refine DW.aggl ?_ | refine DW.tupl ?_ | refine DW.clol ?_ ?_ | refine DW.int ?_ | refine DW.bool ?_ | refine DW.str ?_)) | ((with_reducible refine Tri.mark ?_); first | refine Tri.loop (st60 x n lb) (fun j => j + 1 ≤ n) (fun j => n - j) 0 (by kernel_rfl) (Weak.list [] [] (by kernel_rfl) ?_ ?_) ?_ ?_) | ((with_reducible refine ECall.mark ?_); first | refine ECall.only ?_ (fun h => nomatch h) | refine ECall.only ?_ ?_) | ((with_reducible refine Drawn.mark ?_); first | refine Drawn.quiet (by kernel_rfl) ?_) | refine dcell_ok rfl ?_ | refine AppC.new ?_))
  all_goals first | (with_reducible refine enters_mark ?_; kernel_rfl) | (with_reducible refine boolT_mark ?_; kernel_rfl) | rfl | trivial | assumption | exact Nat.le_of_ble_eq_true rfl | (show entersB _ _ = true; kernel_rfl) | exact DW.same _ rfl | exact DW.ref _ _ _ rfl | exact DW.arr _ _ _ rfl | refine DW.int ?_ | refine dvb ?_ | refine dvi ?_ | exact OW.cells rfl rfl (DWl.same rfl) | exact Nat.zero_le _ | omega | skip
  all_goals repeat' (first | refine OW.cells rfl rfl ?_ | exact DW.nilArr _ rfl | refine DWl.cons ?_ ?_ | exact DWl.nil | exact DW.same _ rfl | exact DW.ref _ _ _ rfl | exact DW.arr _ _ _ rfl | exact DW.sub _ _ _ _ rfl | exact DW.nilLst _ | refine DW.aggl ?_ | refine DW.tupl ?_ | refine DW.clol ?_ ?_)
  all_goals try ((conv => whnf); with_reducible first | refine Round.mark ?_ | refine Tells.mark ?_ | refine Retold.mark ?_)
  all_goals try first | (show (_ : Bool) = _; simp_all; done) | (show (_ : Int) < _; simp at *; omega) | (show (_ : Int) ≤ _; simp at *; omega) | (show (_ : Nat) < _; simp at *; omega) | (show (_ : Nat) ≤ _; simp at *; omega)
  · rename_i j hj
    conv => whnf
    have e : j + 1 = n := by
      rw [wrapI (by omega) (by omega)] at h
      have := eq_of_beq h
      omega
    exact Tells.mk (DW.int (randK_end2 (by omega) e))
  · rename_i j hj e1
    have e : j + 1 ≠ n := fun e => by
      rw [wrapI (by omega) (by omega)] at e1
      simp at e1; omega
    refine Round.go (· + 1) (by omega) (by show n - (j + 1) < n - j; omega) (Weak.list [] [] (by kernel_rfl) ?_ ?_)
    · repeat' (first | exact wsucc (n := n) hj (by omega) | exact stepsU_next _ _ | exact DW.same _ rfl | exact DW.ref _ _ _ rfl | exact DW.arr _ _ _ rfl | exact OW.cells rfl rfl (DWl.same rfl) | refine OW.cells rfl rfl ?_ | refine DWl.cons ?_ ?_ | exact DWl.nil | exact DW.nilArr _ rfl | exact DW.nilLst _ | refine DW.clol ?_ ?_ | refine DW.aggl ?_ | refine DW.tupl ?_ | refine DW.int ?_ | refine DW.bool ?_ | refine DW.str ?_ | refine DW.arrE rfl ?_ | ((conv => whnf); first | refine And.intro ?_ ?_ | trivial))
    · repeat' (first | exact wsucc (n := n) hj (by omega) | exact stepsU_next _ _ | exact DW.same _ rfl | exact DW.ref _ _ _ rfl | exact DW.arr _ _ _ rfl | exact OW.cells rfl rfl (DWl.same rfl) | refine OW.cells rfl rfl ?_ | refine DWl.cons ?_ ?_ | exact DWl.nil | exact DW.nilArr _ rfl | exact DW.nilLst _ | refine DW.clol ?_ ?_ | refine DW.aggl ?_ | refine DW.tupl ?_ | refine DW.int ?_ | refine DW.bool ?_ | refine DW.str ?_ | refine DW.arrE rfl ?_ | ((conv => whnf); first | refine And.intro ?_ ?_ | trivial))
end Go.Proofs.YtgaghkchdiepoaaDoor

/- A storm, by the program. -/
namespace Go.Proofs.YtgaghkchdiepoaaDoor
open Go.RowKit Go.Dl
attribute [local irreducible] Tri SCall TSem ECall Drawn DFun QSem PSem PCall GCall MCall Round Weak dloadE OW DWl Tells Retold ESem
theorem mxsRow (l : List Mx) : ∀ r ∈ l.map mxD, r.length = 6 ∧ r.all isData1 = true := by
  intro r hr
  obtain ⟨x, _, rfl⟩ := List.mem_map.1 hr
  exact ⟨rfl, rfl⟩
def dr (x : Int) (j : Nat) : Int := valU (stepsU x j)
def stS (n s x : Int) : St := ⟨0, tmOf [(0, int1 n), (4, .ref 0 0), (7, .ref 1 0), (9, .ref 3 0)], .of [(0, ⟨3, 1, [int1 s]⟩), (1, ⟨79, 1, [.arr 2 10]⟩), (2, ⟨30, 1, [u64 (dr x 1), u64 (dr x 2), u64 (dr x 3), u64 (dr x 4), u64 (dr x 5), u64 (dr x 6), u64 (dr x 7), u64 (dr x 8), u64 (dr x 9), u64 (dr x 10)]⟩), (3, ⟨83, 1, [.clo (.func 42) [] [.ref 1 0]]⟩)] 4⟩
theorem randDr (x : Int) {k : Int} {j : Nat} (h : k = ((j : Nat) : Int)) (hj : 1 ≤ j ∧ j ≤ 10) : randK x k = dr x j := by
  rw [h, randK, if_neg (by omega), Int.toNat_natCast]; rfl
def xm (v m : Int) : Int := IntKind.i64.wrap (v.tmod (IntKind.u64.wrap m))
def tR (s a b : Int) : Int := IntKind.i64.wrap (xm a s + xm b (IntKind.i64.wrap (IntKind.i64.wrap (s - xm a s) + 1)))
def raw4 (n s x : Int) : List Mx := [⟨1, 0, s, IntKind.i64.wrap ((dr x 1).tmod (IntKind.u64.wrap 400)), 0, 0⟩, ⟨2, 0, s, IntKind.i64.wrap ((dr x 2).tmod (IntKind.u64.wrap 300)), 0, 0⟩, ⟨3, 0, s, IntKind.i64.wrap ((dr x 3).tmod (IntKind.u64.wrap 500)), 0, 0⟩, ⟨5, IntKind.i64.wrap ((dr x 4).tmod (IntKind.u64.wrap s)), IntKind.i64.wrap (IntKind.i64.wrap ((dr x 4).tmod (IntKind.u64.wrap s)) + IntKind.i64.wrap ((dr x 5).tmod (IntKind.u64.wrap (IntKind.i64.wrap (IntKind.i64.wrap (s - IntKind.i64.wrap ((dr x 4).tmod (IntKind.u64.wrap s))) + 1))))), 0, IntKind.i64.wrap ((dr x 6).tmod (IntKind.u64.wrap n)), 0⟩]
def rawS (n s x : Int) : Mx := ⟨4, IntKind.i64.wrap ((dr x 7).tmod (IntKind.u64.wrap s)), IntKind.i64.wrap (IntKind.i64.wrap ((dr x 7).tmod (IntKind.u64.wrap s)) + IntKind.i64.wrap ((dr x 8).tmod (IntKind.u64.wrap (IntKind.i64.wrap (IntKind.i64.wrap (s - IntKind.i64.wrap ((dr x 7).tmod (IntKind.u64.wrap s))) + 1))))), 0, IntKind.i64.wrap ((dr x 9).tmod (IntKind.u64.wrap n)), (IntKind.i64.wrap (IntKind.i64.wrap (IntKind.i64.wrap ((dr x 9).tmod (IntKind.u64.wrap n)) + 1) + IntKind.i64.wrap ((dr x 10).tmod (IntKind.u64.wrap (IntKind.i64.wrap (n - 1)))))).tmod n⟩
theorem raw4_x (n s x : Int) : raw4 n s x = [⟨1, 0, s, xm (dr x 1) 400, 0, 0⟩, ⟨2, 0, s, xm (dr x 2) 300, 0, 0⟩, ⟨3, 0, s, xm (dr x 3) 500, 0, 0⟩, ⟨5, xm (dr x 4) s, tR s (dr x 4) (dr x 5), 0, xm (dr x 6) n, 0⟩] := rfl
theorem rawS_x (n s x : Int) : rawS n s x = ⟨4, xm (dr x 7) s, tR s (dr x 7) (dr x 8), 0, xm (dr x 9) n, (IntKind.i64.wrap (IntKind.i64.wrap (xm (dr x 9) n + 1) + xm (dr x 10) (IntKind.i64.wrap (n - 1)))).tmod n⟩ := rfl
def tC (s a b : Int) : Int := a % s + b % (s - a % s + 1)
def stormT (n s x : Int) : List Mx := if n < 1 ∨ 16 < n ∨ s < 1 ∨ 1048576 < s then [] else
  [⟨1, 0, s, dr x 1 % 400, 0, 0⟩, ⟨2, 0, s, dr x 2 % 300, 0, 0⟩, ⟨3, 0, s, dr x 3 % 500, 0, 0⟩, ⟨5, dr x 4 % s, tC s (dr x 4) (dr x 5), 0, dr x 6 % n, 0⟩]
  ++ (if n < 2 then [] else [⟨4, dr x 7 % s, tC s (dr x 7) (dr x 8), 0, dr x 9 % n, (dr x 9 % n + 1 + dr x 10 % (n - 1)) % n⟩])
theorem dr_range (x : Int) {j : Nat} (hj : 1 ≤ j) : 0 ≤ dr x j ∧ dr x j < 2147483648 := by
  obtain ⟨k, rfl⟩ : ∃ k, j = k + 1 := ⟨j - 1, by omega⟩
  exact valU_range _
theorem wrapU_id {v : Int} (h : 0 ≤ v ∧ v < 18446744073709551616) : IntKind.u64.wrap v = v := by
  unfold IntKind.wrap
  simp [IntKind.bits, IntKind.signed]
  omega
theorem xm_eq {v m : Int} (hv : 0 ≤ v ∧ v < 2147483648) (hm : 1 ≤ m ∧ m ≤ 2147483648) : xm v m = v % m := by
  unfold xm
  have h1 := Int.emod_nonneg v (show m ≠ 0 by omega)
  have h2 := Int.emod_lt_of_pos v (show 0 < m by omega)
  rw [wrapU_id (by omega), Int.tmod_eq_emod_of_nonneg hv.1, wrapI (by omega) (by omega)]
theorem sub_id {s v : Int} (hv : 0 ≤ v ∧ v < 2147483648) (hs : 1 ≤ s ∧ s ≤ 1048576) : IntKind.i64.wrap (IntKind.i64.wrap (s - xm v s) + 1) = s - v % s + 1 ∧ 2 ≤ s - v % s + 1 ∧ s - v % s + 1 ≤ s + 1 := by
  have h1 := Int.emod_nonneg v (show s ≠ 0 by omega)
  have h2 := Int.emod_lt_of_pos v (show 0 < s by omega)
  rw [xm_eq hv (by omega), wrapI (x := s - v % s) (by omega) (by omega), wrapI (by omega) (by omega)]
  omega
theorem tR_eq {s a b : Int} (ha : 0 ≤ a ∧ a < 2147483648) (hb : 0 ≤ b ∧ b < 2147483648) (hs : 1 ≤ s ∧ s ≤ 1048576) : tR s a b = tC s a b := by
  unfold tR tC
  obtain ⟨e, h1, h2⟩ := sub_id ha hs
  have h3 := Int.emod_nonneg a (show s ≠ 0 by omega)
  have h4 := Int.emod_lt_of_pos a (show 0 < s by omega)
  have h5 := Int.emod_nonneg b (show s - a % s + 1 ≠ 0 by omega)
  have h6 := Int.emod_lt_of_pos b (show 0 < s - a % s + 1 by omega)
  rw [e, xm_eq ha (by omega), xm_eq hb (by omega), wrapI (by omega) (by omega)]
theorem wrapU_no {v : Int} {Q : Prop} (hv : 1 ≤ v ∧ v < 18446744073709551616) (h : IntKind.u64.wrap v = 0) : Q := by
  rw [wrapU_id (by omega)] at h; omega
theorem sub_no {s v : Int} {Q : Prop} (hv : 0 ≤ v ∧ v < 2147483648) (hs : 1 ≤ s ∧ s ≤ 1048576) (h : IntKind.u64.wrap (IntKind.i64.wrap (IntKind.i64.wrap (s - IntKind.i64.wrap (v.tmod (IntKind.u64.wrap s))) + 1)) = 0) : Q := by
  have h : IntKind.u64.wrap (IntKind.i64.wrap (IntKind.i64.wrap (s - xm v s) + 1)) = 0 := h
  obtain ⟨e, h1, h2⟩ := sub_id hv hs
  rw [e] at h
  exact wrapU_no (by omega) h
theorem n1_no {n : Int} {Q : Prop} (hn : n ≤ 16) (h1 : decide (n < 2) = false) (h : IntKind.u64.wrap (IntKind.i64.wrap (n - 1)) = 0) : Q := by
  have := of_decide_eq_false h1
  rw [wrapI (x := n - 1) (by omega) (by omega)] at h
  exact wrapU_no (by omega) h
theorem wnext {k : Int} {j : Nat} (h : k = ((j : Nat) : Int)) (hj : j < 1000) : IntKind.i64.wrap (k + 1) = ((j + 1 : Nat) : Int) := by
  rw [h]; exact wsucc (n := 1000) hj (by decide)
theorem raw4_eq {n s x : Int} (hn : 1 ≤ n ∧ n ≤ 16) (hs : 1 ≤ s ∧ s ≤ 1048576) : raw4 n s x = [⟨1, 0, s, dr x 1 % 400, 0, 0⟩, ⟨2, 0, s, dr x 2 % 300, 0, 0⟩, ⟨3, 0, s, dr x 3 % 500, 0, 0⟩, ⟨5, dr x 4 % s, tC s (dr x 4) (dr x 5), 0, dr x 6 % n, 0⟩] := by
  have D := fun j => dr_range x (j := j)
  rw [raw4_x, xm_eq (D 1 (by decide)) (by omega), xm_eq (D 2 (by decide)) (by omega), xm_eq (D 3 (by decide)) (by omega), xm_eq (D 4 (by decide)) (by omega), tR_eq (D 4 (by decide)) (D 5 (by decide)) hs, xm_eq (D 6 (by decide)) (by omega)]
theorem rawS_eq {n s x : Int} (hn : 2 ≤ n ∧ n ≤ 16) (hs : 1 ≤ s ∧ s ≤ 1048576) : rawS n s x = ⟨4, dr x 7 % s, tC s (dr x 7) (dr x 8), 0, dr x 9 % n, (dr x 9 % n + 1 + dr x 10 % (n - 1)) % n⟩ := by
  have D := fun j => dr_range x (j := j)
  have h3 := Int.emod_nonneg (dr x 9) (show n ≠ 0 by omega)
  have h4 := Int.emod_lt_of_pos (dr x 9) (show 0 < n by omega)
  have h5 := Int.emod_nonneg (dr x 10) (show n - 1 ≠ 0 by omega)
  have h6 := Int.emod_lt_of_pos (dr x 10) (show 0 < n - 1 by omega)
  rw [rawS_x, xm_eq (D 7 (by decide)) (by omega), tR_eq (D 7 (by decide)) (D 8 (by decide)) hs, xm_eq (D 9 (by decide)) (by omega), wrapI (x := n - 1) (by omega) (by omega), xm_eq (D 10 (by decide)) (by omega), wrapI (x := dr x 9 % n + 1) (by omega) (by omega), wrapI (by omega) (by omega), Int.tmod_eq_emod_of_nonneg (by omega)]
theorem storm_lo {n s x : Int} (hn : 1 ≤ n ∧ n ≤ 16) (hs : 1 ≤ s ∧ s ≤ 1048576) (h2 : n < 2) : stormT n s x = raw4 n s x := by
  unfold stormT
  rw [if_neg (by omega), if_pos h2, raw4_eq hn hs, List.append_nil]
theorem storm_hi {n s x : Int} (hn : 1 ≤ n ∧ n ≤ 16) (hs : 1 ≤ s ∧ s ≤ 1048576) (h2 : ¬ n < 2) : stormT n s x = raw4 n s x ++ [rawS n s x] := by
  unfold stormT
  rw [if_neg (by omega), if_neg h2, raw4_eq hn hs, rawS_eq (by omega) hs]
attribute [local irreducible] randK dr tC stormT IntKind.wrap
set_option maxRecDepth 100000 in
set_option maxHeartbeats 2000000 in
theorem storm22_D (n s x : Int) (hn : 1 ≤ n ∧ n ≤ 16) (hs : 1 ≤ s ∧ s ≤ 1048576) : DPure Tryd.prog 22 [int1 n, int1 s, u64 x] (mxs (stormT n s x)) := by
  refine DFun.data (DFun.body Tryd.func22 rfl (by kernel_rfl) ?_)
  repeat' (first | with_reducible rfl | ((conv => whnf); first | refine And.intro ?_ ?_ | (intro h; first | with_reducible exact tf_no h | with_reducible exact ft_no h | exact Bool.noConfusion h | with_reducible exact h | (exfalso; simp at h; omega) | (have ht : true = true := h; clear ht h) | skip) | ((with_reducible refine DWl.mark ?_); repeat' (first | refine DWl.cons ?_ ?_ | exact DWl.nil | exact DW.same _ rfl | exact DW.ref _ _ _ rfl | exact DW.arr _ _ _ rfl | exact DW.sub _ _ _ _ rfl | exact DW.nilLst _ | refine DW.aggl ?_ | refine DW.tupl ?_ | refine DW.clol ?_ ?_ | refine DW.int ?_ | refine DW.bool ?_ | refine DW.str ?_)) | ((with_reducible refine SCall.mark ?_); first | refine SCall.run Tryd.func41 rfl (Nat.le_of_ble_eq_true rfl) (by kernel_rfl) ?_ | refine SCall.data (rand60_D _ _) rfl rfl ?_ | refine SCall.scal (rand60_D _ _) rfl rfl ?_) | ((with_reducible refine PCall.mark ?_); first | refine PCall.mk (rand60_D _ _) rfl rfl ?_) | ((with_reducible refine GCall.mark ?_); first | refine GCall.data (fun _ => rand60_D _ _) rfl rfl ?_ | refine GCall.scal (fun _ => rand60_D _ _) rfl rfl ?_) | ((with_reducible refine MCall.mark ?_); first | refine MCall.data (fun _ => rand60_D _ _) rfl rfl ?_ | refine MCall.plain (PCall.mk (rand60_D _ _) rfl rfl ?_)) | ((with_reducible refine ECall.mark ?_); first | refine ECall.only ?_ (fun h => nomatch h) | refine ECall.only ?_ ?_) | ((with_reducible refine Drawn.mark ?_); first | refine Drawn.quiet (by kernel_rfl) ?_) | refine dcell_ok rfl ?_ | refine AppC.new ?_))
  all_goals first | (with_reducible refine enters_mark ?_; kernel_rfl) | (with_reducible refine boolT_mark ?_; kernel_rfl) | rfl | trivial | assumption | exact Nat.le_of_ble_eq_true rfl | (show entersB _ _ = true; kernel_rfl) | exact DW.same _ rfl | exact DW.ref _ _ _ rfl | exact DW.arr _ _ _ rfl | refine DW.int ?_ | refine dvb ?_ | refine dvi ?_ | exact OW.cells rfl rfl (DWl.same rfl) | exact Nat.zero_le _ | omega | skip
  all_goals repeat' (first | refine OW.cells rfl rfl ?_ | exact DW.nilArr _ rfl | refine DWl.cons ?_ ?_ | exact DWl.nil | exact DW.same _ rfl | exact DW.ref _ _ _ rfl | exact DW.arr _ _ _ rfl | exact DW.sub _ _ _ _ rfl | exact DW.nilLst _ | refine DW.aggl ?_ | refine DW.tupl ?_ | refine DW.clol ?_ ?_)
  all_goals try ((conv => whnf); with_reducible first | refine Round.mark ?_ | refine Tells.mark ?_ | refine Retold.mark ?_)
  all_goals try first | (show (_ : Bool) = _; simp_all; done) | (show (_ : Int) < _; simp at *; omega) | (show (_ : Int) ≤ _; simp at *; omega) | (show (_ : Nat) < _; simp at *; omega) | (show (_ : Nat) ≤ _; simp at *; omega)
  conv => whnf
  refine Tri.range rfl (by kernel_rfl) rfl rfl (by rfl) (by kernel_rfl) fun lb => ?_
  repeat' (first | with_reducible rfl | ((conv => whnf); first | refine And.intro ?_ ?_ | (intro h; first | with_reducible exact tf_no h | with_reducible exact ft_no h | exact Bool.noConfusion h | with_reducible exact h | (exfalso; simp at h; done) | (have ht : true = true := h; clear ht h) | skip) | ((with_reducible refine DWl.mark ?_); repeat' (first | refine DWl.cons ?_ ?_ | exact DWl.nil | exact DW.same _ rfl | exact DW.ref _ _ _ rfl | exact DW.arr _ _ _ rfl | exact DW.sub _ _ _ _ rfl | exact DW.nilLst _ | refine DW.aggl ?_ | refine DW.tupl ?_ | refine DW.clol ?_ ?_ | refine DW.int ?_ | refine DW.bool ?_ | refine DW.str ?_)) | ((with_reducible refine SCall.mark ?_); first | refine SCall.data (rand60_D _ _) rfl rfl ?_ | refine SCall.scal (rand60_D _ _) rfl rfl ?_) | ((with_reducible refine PCall.mark ?_); first | refine PCall.mk (rand60_D _ _) rfl rfl ?_) | ((with_reducible refine GCall.mark ?_); first | refine GCall.data (fun _ => rand60_D _ _) rfl rfl ?_ | refine GCall.scal (fun _ => rand60_D _ _) rfl rfl ?_) | ((with_reducible refine MCall.mark ?_); first | refine MCall.data (fun _ => rand60_D _ _) rfl rfl ?_ | refine MCall.plain (PCall.mk (rand60_D _ _) rfl rfl ?_)) | ((with_reducible refine Tri.mark ?_); first | refine Tri.rounds 11 (by kernel_rfl) ?_) | ((with_reducible refine ECall.mark ?_); first | refine ECall.only ?_ (fun h => nomatch h) | refine ECall.only ?_ ?_) | ((with_reducible refine Drawn.mark ?_); first | refine Drawn.quiet (by kernel_rfl) ?_) | refine dcell_ok rfl ?_ | refine AppC.new ?_))
  all_goals first | (with_reducible refine enters_mark ?_; kernel_rfl) | (with_reducible refine boolT_mark ?_; kernel_rfl) | rfl | trivial | assumption | exact Nat.le_of_ble_eq_true rfl | (show entersB _ _ = true; kernel_rfl) | exact DW.same _ rfl | exact DW.ref _ _ _ rfl | exact DW.arr _ _ _ rfl | refine DW.int ?_ | refine dvb ?_ | refine dvi ?_ | exact OW.cells rfl rfl (DWl.same rfl) | exact Nat.zero_le _ | omega | skip
  all_goals repeat' (first | refine OW.cells rfl rfl ?_ | exact DW.nilArr _ rfl | refine DWl.cons ?_ ?_ | exact DWl.nil | exact DW.same _ rfl | exact DW.ref _ _ _ rfl | exact DW.arr _ _ _ rfl | exact DW.sub _ _ _ _ rfl | exact DW.nilLst _ | refine DW.aggl ?_ | refine DW.tupl ?_ | refine DW.clol ?_ ?_)
  all_goals try ((conv => whnf); with_reducible first | refine Round.mark ?_ | refine Tells.mark ?_ | refine Retold.mark ?_)
  all_goals try first | (show (_ : Bool) = _; simp_all; done) | (show (_ : Int) < _; simp at *; omega) | (show (_ : Int) ≤ _; simp at *; omega) | (show (_ : Nat) < _; simp at *; omega) | (show (_ : Nat) ≤ _; simp at *; omega)
  conv => whnf
  refine Tri.weak (st' := stS n s x) (Weak.list [(0, some 0), (1, some 1), (2, some 22), (3, some 23)] [] (by kernel_rfl) ?_ ?_) ?_
  · repeat' (first | exact DW.int (randDr x (j := 1) (rfl) (by decide)) | exact DW.int (randDr x (j := 2) (wnext (j := 1) (rfl) (by decide)) (by decide)) | exact DW.int (randDr x (j := 3) (wnext (j := 2) (wnext (j := 1) (rfl) (by decide)) (by decide)) (by decide)) | exact DW.int (randDr x (j := 4) (wnext (j := 3) (wnext (j := 2) (wnext (j := 1) (rfl) (by decide)) (by decide)) (by decide)) (by decide)) | exact DW.int (randDr x (j := 5) (wnext (j := 4) (wnext (j := 3) (wnext (j := 2) (wnext (j := 1) (rfl) (by decide)) (by decide)) (by decide)) (by decide)) (by decide)) | exact DW.int (randDr x (j := 6) (wnext (j := 5) (wnext (j := 4) (wnext (j := 3) (wnext (j := 2) (wnext (j := 1) (rfl) (by decide)) (by decide)) (by decide)) (by decide)) (by decide)) (by decide)) | exact DW.int (randDr x (j := 7) (wnext (j := 6) (wnext (j := 5) (wnext (j := 4) (wnext (j := 3) (wnext (j := 2) (wnext (j := 1) (rfl) (by decide)) (by decide)) (by decide)) (by decide)) (by decide)) (by decide)) (by decide)) | exact DW.int (randDr x (j := 8) (wnext (j := 7) (wnext (j := 6) (wnext (j := 5) (wnext (j := 4) (wnext (j := 3) (wnext (j := 2) (wnext (j := 1) (rfl) (by decide)) (by decide)) (by decide)) (by decide)) (by decide)) (by decide)) (by decide)) (by decide)) | exact DW.int (randDr x (j := 9) (wnext (j := 8) (wnext (j := 7) (wnext (j := 6) (wnext (j := 5) (wnext (j := 4) (wnext (j := 3) (wnext (j := 2) (wnext (j := 1) (rfl) (by decide)) (by decide)) (by decide)) (by decide)) (by decide)) (by decide)) (by decide)) (by decide)) (by decide)) | exact DW.int (randDr x (j := 10) (wnext (j := 9) (wnext (j := 8) (wnext (j := 7) (wnext (j := 6) (wnext (j := 5) (wnext (j := 4) (wnext (j := 3) (wnext (j := 2) (wnext (j := 1) (rfl) (by decide)) (by decide)) (by decide)) (by decide)) (by decide)) (by decide)) (by decide)) (by decide)) (by decide)) (by decide)) | exact DW.same _ rfl | exact DW.ref _ _ _ rfl | exact DW.arr _ _ _ rfl | exact OW.cells rfl rfl (DWl.same rfl) | refine OW.cells rfl rfl ?_ | refine DWl.cons ?_ ?_ | exact DWl.nil | exact DW.nilArr _ rfl | exact DW.nilLst _ | refine DW.clol ?_ ?_ | refine DW.aggl ?_ | refine DW.tupl ?_ | refine DW.int ?_ | refine DW.bool ?_ | refine DW.str ?_ | refine DW.arrE rfl ?_ | ((conv => whnf); first | refine And.intro ?_ ?_ | trivial))
  · repeat' (first | exact DW.int (randDr x (j := 1) (rfl) (by decide)) | exact DW.int (randDr x (j := 2) (wnext (j := 1) (rfl) (by decide)) (by decide)) | exact DW.int (randDr x (j := 3) (wnext (j := 2) (wnext (j := 1) (rfl) (by decide)) (by decide)) (by decide)) | exact DW.int (randDr x (j := 4) (wnext (j := 3) (wnext (j := 2) (wnext (j := 1) (rfl) (by decide)) (by decide)) (by decide)) (by decide)) | exact DW.int (randDr x (j := 5) (wnext (j := 4) (wnext (j := 3) (wnext (j := 2) (wnext (j := 1) (rfl) (by decide)) (by decide)) (by decide)) (by decide)) (by decide)) | exact DW.int (randDr x (j := 6) (wnext (j := 5) (wnext (j := 4) (wnext (j := 3) (wnext (j := 2) (wnext (j := 1) (rfl) (by decide)) (by decide)) (by decide)) (by decide)) (by decide)) (by decide)) | exact DW.int (randDr x (j := 7) (wnext (j := 6) (wnext (j := 5) (wnext (j := 4) (wnext (j := 3) (wnext (j := 2) (wnext (j := 1) (rfl) (by decide)) (by decide)) (by decide)) (by decide)) (by decide)) (by decide)) (by decide)) | exact DW.int (randDr x (j := 8) (wnext (j := 7) (wnext (j := 6) (wnext (j := 5) (wnext (j := 4) (wnext (j := 3) (wnext (j := 2) (wnext (j := 1) (rfl) (by decide)) (by decide)) (by decide)) (by decide)) (by decide)) (by decide)) (by decide)) (by decide)) | exact DW.int (randDr x (j := 9) (wnext (j := 8) (wnext (j := 7) (wnext (j := 6) (wnext (j := 5) (wnext (j := 4) (wnext (j := 3) (wnext (j := 2) (wnext (j := 1) (rfl) (by decide)) (by decide)) (by decide)) (by decide)) (by decide)) (by decide)) (by decide)) (by decide)) (by decide)) | exact DW.int (randDr x (j := 10) (wnext (j := 9) (wnext (j := 8) (wnext (j := 7) (wnext (j := 6) (wnext (j := 5) (wnext (j := 4) (wnext (j := 3) (wnext (j := 2) (wnext (j := 1) (rfl) (by decide)) (by decide)) (by decide)) (by decide)) (by decide)) (by decide)) (by decide)) (by decide)) (by decide)) (by decide)) | exact DW.same _ rfl | exact DW.ref _ _ _ rfl | exact DW.arr _ _ _ rfl | exact OW.cells rfl rfl (DWl.same rfl) | refine OW.cells rfl rfl ?_ | refine DWl.cons ?_ ?_ | exact DWl.nil | exact DW.nilArr _ rfl | exact DW.nilLst _ | refine DW.clol ?_ ?_ | refine DW.aggl ?_ | refine DW.tupl ?_ | refine DW.int ?_ | refine DW.bool ?_ | refine DW.str ?_ | refine DW.arrE rfl ?_ | ((conv => whnf); first | refine And.intro ?_ ?_ | trivial))

  repeat' (first | with_reducible rfl | ((conv => whnf); first | refine And.intro ?_ ?_ | (intro h; first | with_reducible exact tf_no h | with_reducible exact ft_no h | exact Bool.noConfusion h | with_reducible exact h | (exfalso; simp at h; omega) | (have ht : true = true := h; clear ht h) | skip) | ((with_reducible refine DWl.mark ?_); repeat' (first | refine DWl.cons ?_ ?_ | exact DWl.nil | exact DW.same _ rfl | exact DW.ref _ _ _ rfl | exact DW.arr _ _ _ rfl | exact DW.sub _ _ _ _ rfl | exact DW.nilLst _ | refine DW.aggl ?_ | refine DW.tupl ?_ | refine DW.clol ?_ ?_ | refine DW.int ?_ | refine DW.bool ?_ | refine DW.str ?_)) | ((with_reducible refine SCall.mark ?_); first | refine SCall.run Tryd.func42 rfl (Nat.le_of_ble_eq_true rfl) (by kernel_rfl) ?_ | refine SCall.run Tryd.func43 rfl (Nat.le_of_ble_eq_true rfl) (by kernel_rfl) ?_) | ((with_reducible refine Tri.mark ?_); first | (refine Tri.treeX [1, 2] (MX.mv 0 0 (MX.mv 0 1 (MX.mv 0 4 (MX.mv 0 5 (MX.mv 0 8 (MX.mv 0 9 (MX.mv 2 2 (MX.mv 0 3 (MX.mv 2 6 (MX.mv 0 7 (MX.mv 2 10 (MX.mv 0 11 (MX.mv 1 12 (MX.mv 1 13 MX.done)))))))))))))) ?_ (by kernel_rfl) ?_; rfl)) | ((with_reducible refine ECall.mark ?_); first | refine ECall.only ?_ (fun h => nomatch h) | refine ECall.only ?_ ?_) | ((with_reducible refine Drawn.mark ?_); first | (refine Drawn.tree ?_; refine Tri.treeX [1, 2] (MX.mv 0 0 (MX.mv 0 1 (MX.mv 0 4 (MX.mv 0 5 (MX.mv 0 8 (MX.mv 0 9 (MX.mv 2 2 (MX.mv 0 3 (MX.mv 2 6 (MX.mv 0 7 (MX.mv 2 10 (MX.mv 0 11 (MX.mv 1 12 (MX.mv 1 13 MX.done)))))))))))))) ?_ (by kernel_rfl) ?_; rfl) | refine Drawn.quiet (by kernel_rfl) ?_) | refine dcell_ok rfl ?_ | refine AppC.new ?_))
  all_goals first | (with_reducible refine enters_mark ?_; kernel_rfl) | (with_reducible refine boolT_mark ?_; kernel_rfl) | rfl | trivial | assumption | exact Nat.le_of_ble_eq_true rfl | (show entersB _ _ = true; kernel_rfl) | exact DW.same _ rfl | exact DW.ref _ _ _ rfl | exact DW.arr _ _ _ rfl | refine DW.int ?_ | refine dvb ?_ | refine dvi ?_ | exact OW.cells rfl rfl (DWl.same rfl) | exact Nat.zero_le _ | omega | skip
  all_goals repeat' (first | refine OW.cells rfl rfl ?_ | exact DW.nilArr _ rfl | refine DWl.cons ?_ ?_ | exact DWl.nil | exact DW.same _ rfl | exact DW.ref _ _ _ rfl | exact DW.arr _ _ _ rfl | exact DW.sub _ _ _ _ rfl | exact DW.nilLst _ | refine DW.aggl ?_ | refine DW.tupl ?_ | refine DW.clol ?_ ?_)
  all_goals try ((conv => whnf); with_reducible first | refine Round.mark ?_ | refine Tells.mark ?_ | refine Retold.mark ?_)
  all_goals try first | (show (_ : Bool) = _; simp_all; done) | (show (_ : Int) < _; simp at *; omega) | (show (_ : Int) ≤ _; simp at *; omega) | (show (_ : Nat) < _; simp at *; omega) | (show (_ : Nat) ≤ _; simp at *; omega)
  all_goals try first | (with_reducible exact wrapU_no (by omega) h) | (with_reducible exact sub_no (dr_range _ (by decide)) hs h) | (with_reducible exact n1_no hn.2 ‹decide (n < 2) = false› h)
  · conv => whnf
    exact Tells.of (r1 := mxs (raw4 n s x)) (by rw [storm_lo hn hs (of_decide_eq_true h)]) (Tells.mk (DW.pubM (l := raw4 n s x) rfl rfl rfl rfl (mxsRow _) rfl))
  · conv => whnf
    exact Tells.of (r1 := mxs (raw4 n s x ++ [rawS n s x])) (by rw [storm_hi hn hs (of_decide_eq_false h)]) (Tells.mk (DW.pubM (l := raw4 n s x ++ [rawS n s x]) rfl rfl rfl rfl (mxsRow _) rfl))
end Go.Proofs.YtgaghkchdiepoaaDoor
